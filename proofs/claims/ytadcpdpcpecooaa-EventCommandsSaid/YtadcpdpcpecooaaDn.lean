/- The walks of Done (both Packers), of what nobody made, of Open and the Opener's Done, of fair and Mod. -/
import Derived.Test.YtadcpdpcpecooaaPk4
import Derived.Test.YtadcpdpcpecooaaOp3
import Derived.Test.YtadcpdpcpecooaaRf1
namespace Go.Proofs.Ytadcpdpcpecooaa.Pk
open Go.RowKit

theorem str_of_row {w : World} {base : Nat} {v : Value} {l : List Int} (h : w.ownsRow base 5 1 v l.length (nums .u8 l)) : (convert 53 9 v).run Try.prog w = .ok (.string (strOfNums l)) w := by
  rcases h.2 with ⟨rfl, hl⟩ | ⟨g, cap, cur, rfl, _, hg, hc, _, hcs, ht⟩
  · have : l = [] := List.eq_nil_of_length_eq_zero hl
    subst this
    exact run_convert_bytes_nil w 53 5 Try.underlying53 Try.underlying5 0 0 9 Try.underlying9
  · refine run_convert_bytes_arg w 53 5 Try.underlying53 Try.underlying5 g 0 l.length cap l rfl (fun i hi => ?_) 9 Try.underlying9
    have hu : (nums .u8 l)[i]? = some (.int .u8 (l.getD i 0)) := by simp [nums, List.getD_eq_getElem?_getD, hi]
    have := h.cells (g := g) rfl i _ hu
    rw [Nat.zero_add]
    have e : (⟨g, 0, none⟩ : Addr).add i = ⟨g, i, none⟩ := by unfold Addr.add; split <;> simp_all
    rwa [e] at this

set_option maxRecDepth 20000 in
theorem Done_ok (base g : Nat) (vb : Value) (l : List Int) (w : World) (hp : PkAt 55 5 w base g vb l 0) :
    Calls Try.prog 28 #[.pointer (some ⟨g, 0, none⟩)] w fun e w' => e = .returned (.tuple #[.string (strOfNums l), .int .i64 0]) ∧ w = w' := by
  have c0 := hp.blk.cell 0
  have c1 := hp.blk.cell 1
  have hcv := str_of_row hp.row
  obtain ⟨A, cp, rfl⟩ := hp.shape
  go_enter Try.func28, Try.ntmps28
  go_wp2_with fail
  go_ret2
  exact ⟨rfl, rfl⟩
set_option maxRecDepth 20000 in
theorem Done_err (base g : Nat) (vb : Value) (l : List Int) (e0 : Int) (w : World) (hp : PkAt 55 5 w base g vb l e0) (h0 : e0 ≠ 0) :
    Calls Try.prog 28 #[.pointer (some ⟨g, 0, none⟩)] w fun e w' => e = .returned (.tuple #[.string ByteArray.empty, .int .i64 e0]) ∧ w.drew = w' := by
  have c1 := hp.blk.cell 1
  have hb : (e0 != 0) = true := by simpa using h0
  go_enter Try.func28, Try.ntmps28
  go_wp2_with fail
  go_region
  all_goals go_wp2
  all_goals go_ret2
  all_goals exact ⟨rfl, rfl⟩
set_option maxRecDepth 20000 in
theorem Done_nil (w : World) :
    Calls Try.prog 28 #[.pointer none] w fun e w' => e = .returned (.tuple #[.string ByteArray.empty, .int .i64 1]) ∧ w = w' := by
  go_enter Try.func28, Try.ntmps28
  go_wp2_with fail
  go_ret2
  exact ⟨rfl, rfl⟩

/-- What Done hands back. -/
def doneS (l : List Int) (e : Int) : ByteArray := if e = 0 then strOfNums l else ByteArray.empty
theorem Done_calls (base g : Nat) (vb : Value) (l : List Int) (e0 : Int) (w : World) (hp : PkAt 55 5 w base g vb l e0) :
    Calls Try.prog 28 #[.pointer (some ⟨g, 0, none⟩)] w fun e w' => e = .returned (.tuple #[.string (doneS l e0), .int .i64 e0]) ∧ Below w.heap.size w w' := by
  unfold doneS
  by_cases h0 : e0 = 0
  · subst h0
    refine (Done_ok base g vb l w hp).mono ?_
    rintro e w' ⟨rfl, rfl⟩
    exact ⟨rfl, Below.refl _ _⟩
  · rw [if_neg h0]
    refine (Done_err base g vb l e0 w hp h0).mono ?_
    rintro e w' ⟨rfl, rfl⟩
    exact ⟨rfl, (Below.refl _ _).drew⟩

set_option maxRecDepth 20000 in
theorem Num_nil (V n : Int) (w : World) : Calls Try.prog 25 #[.pointer none, .int .u64 V, .int .i64 n] w fun e w' => e = .returned (.tuple #[]) ∧ Below w.heap.size w w' := by
  have hmf : ∀ (fn : Fn) (first cap : Array Value) (w : World), (Instr.makeFunc fn first cap).run Try.prog w = .ok (.func fn first cap) w := fun _ _ _ _ => rfl
  go_enter Try.func25, Try.ntmps25
  go_wp2_with (go_at_call 50; refine (put_nil _ _).mono ?_; rintro e w' ⟨rfl, rfl⟩)
  go_end0
  exact ⟨rfl, ((((Below.refl _ _).alloc (Nat.le_refl _) _).alloc (by simp) _).alloc (by simp; omega) _).alloc (by simp; omega) _⟩
set_option maxRecDepth 20000 in
theorem ONum_nil (n : Int) (w : World) : Calls Try.prog 47 #[.pointer none, .int .i64 n] w fun e w' => e = .returned (.int .u64 0) ∧ Below w.heap.size w w' := by
  have hmf : ∀ (fn : Fn) (first cap : Array Value) (w : World), (Instr.makeFunc fn first cap).run Try.prog w = .ok (.func fn first cap) w := fun _ _ _ _ => rfl
  go_enter Try.func47, Try.ntmps47
  go_wp2_with (go_at_call 71; refine (get_nil _ _).mono ?_; rintro e w' ⟨rfl, rfl⟩)
  go_ret
  exact ⟨rfl, ((((Below.refl _ _).alloc (Nat.le_refl _) _).alloc (by simp) _).alloc (by simp; omega) _).alloc (by simp; omega) _⟩
set_option maxRecDepth 20000 in
theorem ODone_nil (w : World) : Calls Try.prog 32 #[.pointer none] w fun e w' => e = .returned (.bool false) ∧ w = w' := by
  go_enter Try.func32, Try.ntmps32
  go_wp2_with fail
  go_ret
  exact ⟨rfl, rfl⟩

theorem toList_isEmpty (s : ByteArray) : s.toList.isEmpty = (s.size == 0) := by
  rw [Lib.toList_data, ByteArray.size, ← Array.length_toList]
  cases s.data.toList <;> simp
/-- Whether all was taken. -/
def doneB : Option ByteArray → Bool
  | some s => s.size == 0
  | none => false
set_option maxRecDepth 20000 in
theorem ODone_calls (base g : Nat) (st : Option ByteArray) (w : World) (hp : OpSt 92 w base g st) :
    Calls Try.prog 32 #[.pointer (some ⟨g, 0, none⟩)] w fun e w' => e = .returned (.bool (doneB st)) ∧ w = w' := by
  cases st with
  | none =>
    obtain ⟨s, hs⟩ := hp
    have c0 := hs.blk.cell 0
    have c1 := hs.blk.cell 1
    go_enter Try.func32, Try.ntmps32
    go_wp2_with fail
    go_ret
    exact ⟨rfl, rfl⟩
  | some s =>
    obtain ⟨hs, _⟩ := hp
    have c0 := hs.blk.cell 0
    have c1 := hs.blk.cell 1
    go_enter Try.func32, Try.ntmps32
    go_wp2_with fail
    go_ret
    refine ⟨ret_bool ?_, rfl⟩
    simp [doneB, toList_isEmpty]

set_option maxRecDepth 20000 in
theorem Open_calls (s : ByteArray) (w : World) (hs : s.size ≤ 9223372036854775807) :
    Calls Try.prog 30 #[.string s] w fun e w' => ∃ g, e = .returned (.pointer (some ⟨g, 0, none⟩)) ∧ OpSt 92 w' w.heap.size g (some s) ∧ Below w.heap.size w w' := by
  go_enter Try.func30, Try.ntmps30
  go_wp2_with fail
  go_ret
  exact ⟨_, rfl, ⟨⟨Blk.new _ _ _, Nat.le_refl _⟩, hs⟩, (Below.refl _ _).alloc (Nat.le_refl _) _⟩
end Go.Proofs.Ytadcpdpcpecooaa.Pk
