/- The contracts of (*Opener).Num and Text. -/
import Derived.Test.YtadcpdpcpecooaaOp2
namespace Go.Proofs.Ytadcpdpcpecooaa.Pk
open Go.RowKit

theorem enters72 (caps : Array Value) (W : World) : (callFunc 72 caps).run Try.prog W = .ok (.enter 72 caps) W := by simp [go_sem]
theorem Blk.below {w w1 : World} {g : Nat} {t : TypeId} {cs : Array Value} (h : Blk w g t cs) (hb : Below w.heap.size w w1) : Blk w1 g t cs := h.same (hb.block g h.lt)

/-- An Opener: what is left, or none: spoilt. -/
def OpSt (T : TypeId) (w : World) (base g : Nat) : Option ByteArray → Prop
  | some s => OpAt T w base g s false ∧ s.size ≤ 9223372036854775807
  | none => ∃ s, OpAt T w base g s true
def numR : Option ByteArray → Int → Int × Option ByteArray
  | none, _ => (0, none)
  | some s, n => if szB n = true ∧ n ≤ s.size then (valOf (ints (s.extract 0 n.toNat)), some (s.extract n.toNat s.size)) else (0, none)
def textR : Option ByteArray → Int → ByteArray × Option ByteArray
  | none, _ => (ByteArray.empty, none)
  | some s, most =>
    if s.size < 2 then (ByteArray.empty, none)
    else if most < valOf (ints (s.extract 0 2)) then (ByteArray.empty, none)
    else if ((s.extract 2 s.size).size : Int) < valOf (ints (s.extract 0 2)) then (ByteArray.empty, none)
    else ((s.extract 2 s.size).extract 0 (valOf (ints (s.extract 0 2))).toNat, some ((s.extract 2 s.size).extract (valOf (ints (s.extract 0 2))).toNat (s.extract 2 s.size).size))

set_option maxRecDepth 20000 in
/-- The closure in Num. -/
theorem onum1_ok (base g bo bs bv : Nat) (n : Nat) (s : ByteArray) (u : Int) (w : World) (hp : OpAt 92 w base g s false) (hbase : base ≤ w.heap.size)
    (h1 : Blk w bo 62 #[.pointer (some ⟨g, 0, none⟩)]) (h2 : Blk w bs 3 #[.int .i64 (n : Int)]) (h3 : Blk w bv 57 #[.int .u64 u])
    (hn : n = 1 ∨ n = 2 ∨ n = 4 ∨ n = 8) (hns : n ≤ s.size) (hs : s.size ≤ 9223372036854775807) :
    Calls Try.prog 72 #[.pointer (some ⟨bo, 0, none⟩), .pointer (some ⟨bs, 0, none⟩), .pointer (some ⟨bv, 0, none⟩)] w fun e w' => e = .returned (.tuple #[]) ∧
      ∃ w1, OpAt 92 w1 base g (s.extract n s.size) false ∧ FrO w w1 base g ∧ w' = w1.setCell ⟨bv, 0, none⟩ (.int .u64 (valOf (ints (s.extract 0 n)))) := by
  have c1 := h1.cell 0
  have c2 := h2.cell 0
  have HN := Lib.hid (onum_ok base g n s false w hp hbase hn hns hs)
  go_enter Try.func72, Try.ntmps72
  go_wp2_with fail
  refine HN.out.mono ?_
  rintro e w1 ⟨rfl, hp1, hf1⟩
  have b3 : Blk w1 bv 57 #[.int .u64 u] := h3.same (hf1.same bv h3.lt (h3.ne_ hp.blk (by decide)) (by simp [Value.ownBlock]))
  have c3 := b3.cell 0
  have f3 := b3.frozen 0
  clear c1 c2
  go_wp2_with fail
  go_end0
  exact ⟨rfl, w1, hp1, hf1, rfl⟩

set_option maxRecDepth 20000 in
theorem onum1_bad (base g bo bs bv : Nat) (n : Int) (s : ByteArray) (w : World) (hp : OpAt 92 w base g s false)
    (h1 : Blk w bo 62 #[.pointer (some ⟨g, 0, none⟩)]) (h2 : Blk w bs 3 #[.int .i64 n]) (hn : szB n = false ∨ (s.size : Int) < n) :
    Calls Try.prog 72 #[.pointer (some ⟨bo, 0, none⟩), .pointer (some ⟨bs, 0, none⟩), .pointer (some ⟨bv, 0, none⟩)] w fun e w' =>
      e = .panicked [{ v := .iface 109 (.agg #[]), recovered := false }] ∧ w = w' := by
  have c1 := h1.cell 0
  have c2 := h2.cell 0
  have HN := Lib.hid (onum_bad base g n s false w hp hn)
  clear hn
  go_enter Try.func72, Try.ntmps72
  go_wp2_with fail
  refine HN.out.mono ?_
  rintro e w1 ⟨rfl, rfl⟩
  exact ⟨rfl, rfl, rfl⟩

/-- Behind a 'bad' that was caught. -/
theorem spoilt_after {w w1 : World} {base g : Nat} {s : ByteArray} (hp : OpAt 92 w1 base g s false) (f : FrO w w1 base g) : OpAt 92 (spoiltBy w1 g) base g s true ∧ FrO w (spoiltBy w1 g) base g := by
  have h1 : Blk (w1.setCell ⟨g, 1, none⟩ (.bool true)) g 92 #[.string s, .bool true] := by
    have := hp.blk.set_ 1 (.bool true)
    simpa using this
  have hgl := hp.blk.lt
  have hb : Below (w1.setCell ⟨g, 1, none⟩ (.bool true)).heap.size (w1.setCell ⟨g, 1, none⟩ (.bool true)) (spoiltBy w1 g) := (Below.refl _ _).alloc (Nat.le_refl _) _
  refine ⟨⟨h1.below hb, hp.ge⟩, (f.trans (PkAt.fr_set 1 _ _ hp.ge)).trans (Fr.of_below hb ?_)⟩
  have := hp.ge
  simp [World.setCell]; omega

set_option maxRecDepth 20000 in
set_option maxHeartbeats 1000000 in
/-- THE CONTRACT of Num. -/
theorem ONum_calls (base g : Nat) (st : Option ByteArray) (n : Int) (w : World) (hp : OpSt 92 w base g st) (hbase : base ≤ w.heap.size) :
    Calls Try.prog 47 #[.pointer (some ⟨g, 0, none⟩), .int .i64 n] w fun e w' => e = .returned (.int .u64 (numR st n).1) ∧ OpSt 92 w' base g (numR st n).2 ∧ FrO w w' base g := by
  have hb3 : Below w.heap.size w (((w.alloc (.cells #[.pointer (some ⟨g, 0, none⟩)] 62)).alloc (.cells #[.int .i64 n] 3)).alloc (.cells #[.int .u64 0] 57)) :=
    (((Below.refl _ _).alloc (Nat.le_refl _) _).alloc (by simp) _).alloc (by simp; omega) _
  have P : Calls Try.prog 71 #[.pointer (some ⟨g, 0, none⟩), .func (.func 72) #[] #[.pointer (some ⟨w.heap.size, 0, none⟩), .pointer (some ⟨w.heap.size + 1, 0, none⟩), .pointer (some ⟨w.heap.size + 1 + 1, 0, none⟩)]]
      (((w.alloc (.cells #[.pointer (some ⟨g, 0, none⟩)] 62)).alloc (.cells #[.int .i64 n] 3)).alloc (.cells #[.int .u64 0] 57)) fun e w' => e = .returned (.tuple #[]) ∧
      OpSt 92 w' base g (numR st n).2 ∧ FrO w w' base g ∧ Blk w' (w.heap.size + 1 + 1) 57 #[.int .u64 (numR st n).1] := by
    have k1 : Blk (((w.alloc (.cells #[.pointer (some ⟨g, 0, none⟩)] 62)).alloc (.cells #[.int .i64 n] 3)).alloc (.cells #[.int .u64 0] 57)) w.heap.size 62 #[.pointer (some ⟨g, 0, none⟩)] :=
      ((Blk.new w _ _).below ((Below.refl _ _).alloc (Nat.le_refl _) _)).below ((Below.refl _ _).alloc (Nat.le_refl _) _)
    have k2 : Blk (((w.alloc (.cells #[.pointer (some ⟨g, 0, none⟩)] 62)).alloc (.cells #[.int .i64 n] 3)).alloc (.cells #[.int .u64 0] 57)) (w.heap.size + 1) 3 #[.int .i64 n] := by
      have := (Blk.new (w.alloc (.cells #[.pointer (some ⟨g, 0, none⟩)] 62)) 3 #[.int .i64 n]).below ((Below.refl _ _).alloc (Nat.le_refl _) (.cells #[.int .u64 0] 57))
      simpa using this
    have k3 : Blk (((w.alloc (.cells #[.pointer (some ⟨g, 0, none⟩)] 62)).alloc (.cells #[.int .i64 n] 3)).alloc (.cells #[.int .u64 0] 57)) (w.heap.size + 1 + 1) 57 #[.int .u64 0] := by
      have := Blk.new ((w.alloc (.cells #[.pointer (some ⟨g, 0, none⟩)] 62)).alloc (.cells #[.int .i64 n] 3)) 57 #[.int .u64 0]
      simpa using this
    have hsz : w.heap.size ≤ (((w.alloc (.cells #[.pointer (some ⟨g, 0, none⟩)] 62)).alloc (.cells #[.int .i64 n] 3)).alloc (.cells #[.int .u64 0] 57)).heap.size := hb3.size
    generalize (((w.alloc (.cells #[.pointer (some ⟨g, 0, none⟩)] 62)).alloc (.cells #[.int .i64 n] 3)).alloc (.cells #[.int .u64 0] 57)) = W at hb3 k1 k2 k3 hsz ⊢
    have hbW : Below W.heap.size W (oboxed W g) := (Below.refl _ _).alloc (Nat.le_refl _) _
    have hbsz := hbW.size
    have hf0 : FrO w W base g := Fr.of_below hb3 hbase
    have hf1 : FrO W (oboxed W g) base g := Fr.of_below hbW (by omega)
    have kb : Blk (oboxed W g) W.heap.size 62 #[.pointer (some ⟨g, 0, none⟩)] := Blk.new _ _ _
    cases st with
    | none =>
      obtain ⟨s, hs⟩ := hp
      have hpW : Blk W g 92 #[.string s, .bool true] := hs.blk.below hb3
      refine (get_skip g s _ W hpW).mono ?_
      rintro e w' ⟨rfl, rfl⟩
      exact ⟨rfl, ⟨s, hpW.below hbW, hs.ge⟩, hf0.trans hf1, k3.below hbW⟩
    | some s =>
      obtain ⟨hs, hsz63⟩ := hp
      have hpW : OpAt 92 W base g s false := ⟨hs.blk.below hb3, hs.ge⟩
      have hpO : OpAt 92 (oboxed W g) base g s false := ⟨hpW.blk.below hbW, hs.ge⟩
      simp only [numR]
      by_cases hc : szB n = true ∧ n ≤ s.size
      · rw [if_pos hc]
        obtain ⟨m, rfl⟩ := Int.eq_ofNat_of_zero_le (show 0 ≤ n by have := (szB_iff n).1 hc.1; omega)
        have hm := (szB_iff (m : Int)).1 hc.1
        rw [Int.toNat_natCast]
        refine (get_ret g s 72 _ W (fun w' => OpSt 92 w' base g (some (s.extract m s.size)) ∧ FrO w w' base g ∧ Blk w' (w.heap.size + 1 + 1) 57 #[.int .u64 (valOf (ints (s.extract 0 m)))]) hpW.blk (enters72 _) ?_).mono ?_
        · refine (onum1_ok base g _ _ _ m s 0 (oboxed W g) hpO (by omega) (k1.below hbW) (k2.below hbW) (k3.below hbW) (by omega) (by omega) hsz63).mono ?_
          rintro e w' ⟨rfl, w1, hp1, hf2, rfl⟩
          have k3' : Blk w1 (w.heap.size + 1 + 1) 57 #[.int .u64 0] := (k3.below hbW).same (hf2.same _ (k3.below hbW).lt ((k3.below hbW).ne_ hpO.blk (by decide)) (by simp [Value.ownBlock]))
          have hne : g ≠ w.heap.size + 1 + 1 := (hp1.blk.ne_ k3' (by decide))
          refine ⟨rfl, ⟨⟨hp1.blk.same (Below.heap_setCell _ _ _ _ hne), hp1.ge⟩, by simp [ByteArray.size_extract]; omega⟩, ?_, ?_⟩
          · have ft := (hf0.trans hf1).trans hf2
            refine ⟨ft.below.setCell (by show base ≤ w.heap.size + 1 + 1; omega) _, fun k hk hkg hkv => ?_, .inl rfl⟩
            rw [Below.heap_setCell _ _ _ _ (by show k ≠ w.heap.size + 1 + 1; omega)]
            exact ft.same k hk hkg hkv
          · have := k3'.set_ 0 (.int .u64 (valOf (ints (s.extract 0 m))))
            simpa using this
        · rintro e w' ⟨rfl, h1, h2, h3⟩
          exact ⟨rfl, h1, h2, h3⟩
      · rw [if_neg hc]
        refine (get_pan g s 72 _ W (fun w' => oboxed W g = w') hpW.blk (enters72 _) ?_).mono ?_
        · refine (onum1_bad base g _ _ _ n s (oboxed W g) hpO (k1.below hbW) (k2.below hbW) ?_).mono ?_
          · by_cases h1 : szB n = true
            · right; have : ¬ n ≤ s.size := fun h => hc ⟨h1, h⟩; omega
            · left; simpa using h1
          · rintro e w' ⟨rfl, rfl⟩
            exact ⟨rfl, rfl, kb, s, hpO.blk⟩
        · rintro e w' ⟨rfl, w1, rfl, rfl⟩
          obtain ⟨h1, h2⟩ := spoilt_after hpO (hf0.trans hf1)
          refine ⟨rfl, ⟨s, h1⟩, h2, ?_⟩
          have hne : w.heap.size + 1 + 1 ≠ g := ((k3.below hbW).ne_ hpO.blk (by decide))
          have h3 : Blk ((oboxed W g).setCell ⟨g, 1, none⟩ (.bool true)) (w.heap.size + 1 + 1) 57 #[.int .u64 0] := (k3.below hbW).same (Below.heap_setCell _ _ _ _ hne)
          exact h3.below ((Below.refl _ _).alloc (Nat.le_refl _) _)
  have HP := Lib.hid P
  clear P
  have hmf : ∀ (fn : Fn) (first cap : Array Value) (w : World), (Instr.makeFunc fn first cap).run Try.prog w = .ok (.func fn first cap) w := fun _ _ _ _ => rfl
  go_enter Try.func47, Try.ntmps47
  go_wp2_with fail
  refine HP.out.mono ?_
  rintro e w1 ⟨rfl, hq1, hq2, hq3⟩
  have c3 := hq3.cell 0
  have Hq1 := Lib.hid hq1
  clear hq1
  go_wp2_with fail
  go_ret
  exact ⟨rfl, Hq1.out, hq2⟩

theorem two_range (s : ByteArray) (h : 2 ≤ s.size) : 0 ≤ valOf (ints (s.extract 0 2)) ∧ valOf (ints (s.extract 0 2)) < 65536 := by
  have h1 := valOf_range (ints (s.extract 0 2)) (ints_range _)
  rw [ints_length, show (s.extract 0 2).size = 2 by simp [ByteArray.size_extract]; omega] at h1
  simpa using h1

end Go.Proofs.Ytadcpdpcpecooaa.Pk
