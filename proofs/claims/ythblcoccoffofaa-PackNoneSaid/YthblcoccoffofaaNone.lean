/- What nobody made packs nothing, and opens nothing: the law PackNone returns true at every Item, and changes nothing that was there. No condition. -/
import Derived.Test.YthblcoccoffofaaRows
import Derived.Test.YthblcoccoffofaaWk
import Derived.Test.YthblcoccoffofaaRw
import Derived.Lib.SmallJoins
namespace Go.Proofs.Ythblcoccoffofaa
open Go.ChangeShapes Go.WideShapes Go.ChangeAt Go.RowKit Go.Joins
open Go.ChangeMaps (open_string shut_string)

set_option maxHeartbeats 1000000 in
theorem none_walk (size V : Int) (s : ByteArray) (W : World) (hs : s.size ≤ maxLen) :
    Calls Try.prog 6 #[.agg #[.int .i64 size, .int .u64 V, .string s]] W fun e w' => e = .returned (.bool true) ∧ Below W.heap.size W w' := by
  unfold maxLen at hs
  have hb := Lib.hid ((Below.refl W.heap.size W).alloc (Nat.le_refl _) (.cells #[.int .i64 size, .int .u64 V, .string s] 35))
  by_cases hlong : 130000 < s.size
  · go_enter Try.func6, Try.ntmps6
    go_wp2_with fail
    refine (Pk.wakes_calls _).mono ?_
    rintro e w1 ⟨rfl, h1⟩
    go_wp2_with fail
    go_ret
    exact ⟨rfl, hb.out.trans (h1.mono (by simp))⟩
  · go_enter Try.func6, Try.ntmps6
    go_wp2_with fail
    refine (Pk.Num_nil _ _ _).mono ?_
    rintro e w1 ⟨rfl, h1⟩
    have b1 := hb.out.trans (h1.mono (by simp))
    have k1 := (Pk.Blk.new W 35 #[.int .i64 size, .int .u64 V, .string s]).below h1
    have c2 := k1.cell 2
    go_wp2_with fail
    refine (Pk.Text_nil _ _).mono ?_
    rintro e w2 ⟨rfl, h2⟩
    have b2 := b1.trans (h2.mono b1.size)
    have k2 := k1.below h2
    clear c2 h1 k1 b1 hb
    have c0 := k2.cell 0
    go_wp2_with fail
    refine (Pk.Done_nil _).mono ?_
    rintro e w3 ⟨rfl, rfl⟩
    go_wp2_with fail
    refine (Pk.ONum_nil _ _).mono ?_
    rintro e w3 ⟨rfl, h3⟩
    have b3 := b2.trans (h3.mono b2.size)
    clear c0 k2 h2 b2
    go_wp2_with fail
    refine (Pk.OText_nil _ _).mono ?_
    rintro e w4 ⟨rfl, h4⟩
    have b4 := b3.trans (h4.mono b3.size)
    clear h3 b3
    go_wp2_with fail
    refine (Pk.ODone_nil _).mono ?_
    rintro e w5 ⟨rfl, rfl⟩
    go_wp2_with fail
    refine (Pk.wakes_calls _).mono ?_
    rintro e w5 ⟨rfl, h5⟩
    go_wp2_with fail
    go_ret
    exact ⟨rfl, b4.trans (h5.mono b4.size)⟩

theorem own : ownKnob Try.prog.godebug = none := by kernel_rfl
theorem laidOut : laidOutB Try.prog = true := by kernel_rfl
theorem reads (t : TypeId) (h : t = 3 ∨ t = 9 ∨ t = 22 ∨ t = 33 ∨ t = 35) : Try.prog.readableRec t = true ∧ t < Try.prog.types.size := by
  rcases h with rfl | rfl | rfl | rfl | rfl <;> exact ⟨by kernel_rfl, of_decide_eq_true (by kernel_rfl)⟩

set_option maxRecDepth 100000 in
theorem none_lifted (os : Os) (started : os.Started) (H : Type) (enc : TypeId × Value → H) :
    ReturnsInHanded {} Try.checked os 6 .any (Rows.packNoneSpec.pre6 enc Try.prog Try.f6 Rows.packNoneRow.domain false) (Rows.packNoneSpec.post enc Try.prog Try.f6 false true false false) := by
  refine returnsInHanded_of_change_sized (C := Try.checked) own started (by kernel_rfl) Try.func6
    (ChangeSpec.witness6 (enc := enc) (C := Try.checked) false ⟨#[], #[.agg #[.int .i64 0, .int .u64 0, .string ByteArray.empty]], []⟩ 8 (by kernel_rfl) (by kernel_rfl) (by kernel_rfl) (by kernel_rfl)) ?_
  intro W base args ds gs before hval0 hW hcnd hsz0 _
  have hval : ∀ (j : Nat) t v, Try.f6.params[j]? = some t → args[j]? = some v → Value.okWide Try.prog W .any base t v := hval0
  have hW' := hW
  obtain ⟨p, q, hA0, hV, rfl, hfz, hnd⟩ := hW
  have hA : DataW.TrodAll enc Try.prog W 0 (fun _ => true) true Try.f6.params.toList args.toList ds p := hA0
  obtain ⟨rfl, rfl⟩ := trodVars_none hV
  rw [Try.params6] at hA hval
  obtain ⟨v0, d0, rfl, rfl, h0⟩ := trodAll_one hA
  obtain ⟨c0, c1, c2, y0, y1, y2, m, rfl, rfl, rfl, hy0, hy1, hy2⟩ := open_agg3 Try.underlying35 (by kernel_rfl) (by kernel_rfl) (hval 0 35 v0 rfl rfl) h0
  obtain ⟨size, e0, rfl, _⟩ := DataW.trod_int Try.underlying3 hy0
  obtain ⟨V, e1, rfl, _⟩ := DataW.trod_int Try.underlying33 hy1
  obtain ⟨s, e2, rfl, hs⟩ := DataW.trod_string Try.underlying9 hy2
  simp only [List.cons.injEq, and_true] at e0 e1 e2
  subst e0 e1 e2
  refine (none_walk size V s W hs).mono fun e W' ⟨he, bel⟩ => ?_
  subst he
  exact ⟨_, rfl, Rw.law_post laidOut rfl rfl Try.underlying4 (fun t ht => reads t (by rw [Try.params6] at ht; simp at ht; simp [ht])) hW' bel ⟨rfl, rfl, rfl⟩⟩

/-- PackNone: whatever the Item: true. -/
theorem packNone_holds : Rows.PackNoneSaid :=
  OpenClaim.holds_of_wide 6 Try.f6 rfl rfl rfl rfl rfl rfl rfl ⟨rfl, rfl, rfl, rfl, rfl⟩ rfl rfl rfl rfl rfl (by kernel_rfl) Try.func6 (by kernel_rfl)
    (of_decide_eq_true (by kernel_rfl)) (by unfold Func.isWrapper; first | (rw [if_pos (by decide +kernel)]; kernel_rfl) | (rw [if_neg (by decide +kernel)]; exact ⟨rfl, rfl⟩))
    (fun os started H enc _ => none_lifted os started H enc)
end Go.Proofs.Ythblcoccoffofaa
