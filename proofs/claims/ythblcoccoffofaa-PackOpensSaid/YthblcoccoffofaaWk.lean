/- The walk of wakes. -/
import Derived.Test.YthblcoccoffofaaDn
namespace Go.Proofs.Ythblcoccoffofaa.Pk
open Go.RowKit

theorem PkAt.new (w : World) (base : Nat) (hb : base ≤ w.heap.size) : PkAt 29 5 (w.alloc (.cells #[.slice none 0 0, .int .i64 0] 29)) base w.heap.size (.slice none 0 0) [] 0 :=
  ⟨Blk.new _ _ _, hb, World.ownsRow_nil _ _ _ _⟩
theorem OpSt.fr {w w1 : World} {base g : Nat} {st : Option ByteArray} (h : OpSt 58 w base g st) (hs : w1.heap[g]? = w.heap[g]?) : OpSt 58 w1 base g st := by
  cases st with
  | none => obtain ⟨s, h1⟩ := h; exact ⟨s, h1.blk.same hs, h1.ge⟩
  | some s => exact ⟨⟨h.1.blk.same hs, h.1.ge⟩, h.2⟩

theorem wk1 : numStep [] 0 5 2 = ([5, 0], 0) := by decide
theorem wk2 : textStep [5, 0] 0 ⟨#[97]⟩ = ([5, 0, 1, 0, 97], 0) := by decide
theorem wk3 : doneS [5, 0, 1, 0, 97] 0 = ⟨#[5, 0, 1, 0, 97]⟩ := by decide
theorem wk4 : numR (some ⟨#[5, 0, 1, 0, 97]⟩) 2 = (5, some ⟨#[1, 0, 97]⟩) := by decide
theorem wk5 : textR (some ⟨#[1, 0, 97]⟩) 9 = (⟨#[97]⟩, some ⟨#[]⟩) := by decide

set_option maxHeartbeats 1000000 in
theorem wakes_calls (w : World) : Calls Try.prog 9 #[] w fun e w' => e = .returned (.bool true) ∧ Below w.heap.size w w' := by
  have h0 := Lib.hid (PkAt.new w w.heap.size (Nat.le_refl _))
  have hb0 := Lib.hid ((Below.refl w.heap.size w).alloc (Nat.le_refl _) (.cells #[.slice none 0 0, .int .i64 0] 29))
  go_enter Try.func9, Try.ntmps9
  go_wp2_with fail
  refine (Num_calls w.heap.size w.heap.size _ [] 0 5 2 _ h0.out (by simp) (by omega) (by omega) (by simp)).mono ?_
  rintro e w1 ⟨rfl, v1, h1, f1⟩
  rw [wk1] at h1
  have g1 : Below w.heap.size w w1 := hb0.out.trans f1.below
  clear f1 hb0 h0
  go_wp2_with fail
  refine (Text_calls w.heap.size w.heap.size _ [5, 0] 0 ⟨#[97]⟩ _ h1 g1.size (by simp)).mono ?_
  rintro e w2 ⟨rfl, v2, h2, f2⟩
  rw [wk2] at h2
  have g2 := g1.trans f2.below
  clear f2 h1 g1
  go_wp2_with fail
  refine (Done_calls w.heap.size w.heap.size _ _ _ _ h2).mono ?_
  rintro e w3 ⟨rfl, f3⟩
  rw [wk3]
  have g3 := g2.trans (f3.mono g2.size)
  clear f3 h2 g2
  go_wp2_with fail
  refine (Open_calls ⟨#[5, 0, 1, 0, 97]⟩ w3 (by decide)).mono ?_
  rintro e w4 ⟨g, rfl, h4, f4⟩
  have g4 := g3.trans (f4.mono g3.size)
  have hbase := f4.size
  clear f4
  go_wp2_with fail
  refine (ONum_calls w3.heap.size g _ 2 _ h4 hbase).mono ?_
  rintro e w5 ⟨rfl, h5, f5⟩
  rw [wk4] at h5 ⊢
  have g5 := g4.trans (f5.below.mono g3.size)
  have hbase5 := Nat.le_trans hbase f5.below.size
  clear f5 h4
  go_wp2_with fail
  refine (OText_calls w3.heap.size g _ 9 _ h5 hbase5).mono ?_
  rintro e w6 ⟨rfl, h6, f6⟩
  rw [wk5] at h6 ⊢
  have g6 := g5.trans (f6.below.mono g3.size)
  clear f6 h5
  go_wp2_with fail
  refine (ODone_calls w3.heap.size g _ _ h6).mono ?_
  rintro e w7 ⟨rfl, rfl⟩
  go_wp2_with fail
  go_ret
  exact ⟨rfl, g6⟩
end Go.Proofs.Ythblcoccoffofaa.Pk
