/- The contracts of (*Opener).Num and Text. -/
import Derived.Test.YthblcoccoffofaaOp2
namespace Go.Proofs.Ythblcoccoffofaa.Pk
open Go.RowKit

theorem enters35 (caps : Array Value) (W : World) : (callFunc 35 caps).run Try.prog W = .ok (.enter 35 caps) W := by simp [go_sem]
theorem enters32 (caps : Array Value) (W : World) : (callFunc 32 caps).run Try.prog W = .ok (.enter 32 caps) W := by simp [go_sem]
theorem Blk.below {w w1 : World} {g : Nat} {t : TypeId} {cs : Array Value} (h : Blk w g t cs) (hb : Below w.heap.size w w1) : Blk w1 g t cs := h.same (hb.block g h.lt)

/-- An Opener: what is left, or none: spoilt. -/
def OpSt (T : TypeId) (w : World) (base g : Nat) : Option ByteArray → Prop
  | some s => OpAt T w base g s false ∧ s.size ≤ 9223372036854775807
  | none => ∃ s, OpAt T w base g s true
def numR : Option ByteArray → Int → Int × Option ByteArray
  | none, _ => (0, none)
  | some s, n => if szB n = true ∧ n ≤ s.size then (valOf (ints (s.extract 0 n.toNat)), some (s.extract n.toNat s.size)) else (0, none)
def textR : Option ByteArray → Int → ByteArray × Option ByteArray
  | none, _ => (ByteArray.empty, none)
  | some s, most =>
    if s.size < 2 then (ByteArray.empty, none)
    else if most < valOf (ints (s.extract 0 2)) then (ByteArray.empty, none)
    else if ((s.extract 2 s.size).size : Int) < valOf (ints (s.extract 0 2)) then (ByteArray.empty, none)
    else ((s.extract 2 s.size).extract 0 (valOf (ints (s.extract 0 2))).toNat, some ((s.extract 2 s.size).extract (valOf (ints (s.extract 0 2))).toNat (s.extract 2 s.size).size))

/-- The closure in Num. -/
theorem onum1_ok (base g bo bs bv : Nat) (n : Nat) (s : ByteArray) (u : Int) (w : World) (hp : OpAt 58 w base g s false) (hbase : base ≤ w.heap.size)
    (h1 : Blk w bo 42 #[.pointer (some ⟨g, 0, none⟩)]) (h2 : Blk w bs 3 #[.int .i64 (n : Int)]) (h3 : Blk w bv 33 #[.int .u64 u])
    (hn : n = 1 ∨ n = 2 ∨ n = 4 ∨ n = 8) (hns : n ≤ s.size) (hs : s.size ≤ 9223372036854775807) :
    Calls Try.prog 35 #[.pointer (some ⟨bo, 0, none⟩), .pointer (some ⟨bs, 0, none⟩), .pointer (some ⟨bv, 0, none⟩)] w fun e w' => e = .returned (.tuple #[]) ∧
      ∃ w1, OpAt 58 w1 base g (s.extract n s.size) false ∧ FrO w w1 base g ∧ w' = w1.setCell ⟨bv, 0, none⟩ (.int .u64 (valOf (ints (s.extract 0 n)))) := by
  have c1 := h1.cell 0
  have c2 := h2.cell 0
  have HN := Lib.hid (onum_ok base g n s false w hp hbase hn hns hs)
  go_enter Try.func35, Try.ntmps35
  go_wp2_with fail
  refine HN.out.mono ?_
  rintro e w1 ⟨rfl, hp1, hf1⟩
  have b3 : Blk w1 bv 33 #[.int .u64 u] := h3.same (hf1.same bv h3.lt (h3.ne_ hp.blk (by decide)) (by simp [Value.ownBlock]))
  have c3 := b3.cell 0
  have f3 := b3.frozen 0
  clear c1 c2
  go_wp2_with fail
  go_end0
  exact ⟨rfl, w1, hp1, hf1, rfl⟩

theorem onum1_bad (base g bo bs bv : Nat) (n : Int) (s : ByteArray) (w : World) (hp : OpAt 58 w base g s false)
    (h1 : Blk w bo 42 #[.pointer (some ⟨g, 0, none⟩)]) (h2 : Blk w bs 3 #[.int .i64 n]) (hn : szB n = false ∨ (s.size : Int) < n) :
    Calls Try.prog 35 #[.pointer (some ⟨bo, 0, none⟩), .pointer (some ⟨bs, 0, none⟩), .pointer (some ⟨bv, 0, none⟩)] w fun e w' =>
      e = .panicked [{ v := .iface 60 (.agg #[]), recovered := false }] ∧ w = w' := by
  have c1 := h1.cell 0
  have c2 := h2.cell 0
  have HN := Lib.hid (onum_bad base g n s false w hp hn)
  clear hn
  go_enter Try.func35, Try.ntmps35
  go_wp2_with fail
  refine HN.out.mono ?_
  rintro e w1 ⟨rfl, rfl⟩
  exact ⟨rfl, rfl, rfl⟩

/-- Behind a 'bad' that was caught. -/
theorem spoilt_after {w w1 : World} {base g : Nat} {s : ByteArray} (hp : OpAt 58 w1 base g s false) (f : FrO w w1 base g) : OpAt 58 (spoiltBy w1 g) base g s true ∧ FrO w (spoiltBy w1 g) base g := by
  have h1 : Blk (w1.setCell ⟨g, 1, none⟩ (.bool true)) g 58 #[.string s, .bool true] := by
    have := hp.blk.set_ 1 (.bool true)
    simpa using this
  have hgl := hp.blk.lt
  have hb : Below (w1.setCell ⟨g, 1, none⟩ (.bool true)).heap.size (w1.setCell ⟨g, 1, none⟩ (.bool true)) (spoiltBy w1 g) := (Below.refl _ _).alloc (Nat.le_refl _) _
  refine ⟨⟨h1.below hb, hp.ge⟩, (f.trans (PkAt.fr_set 1 _ _ hp.ge)).trans (Fr.of_below hb ?_)⟩
  have := hp.ge
  simp [World.setCell]; omega

set_option maxHeartbeats 1000000 in
/-- THE CONTRACT of Num. -/
theorem ONum_calls (base g : Nat) (st : Option ByteArray) (n : Int) (w : World) (hp : OpSt 58 w base g st) (hbase : base ≤ w.heap.size) :
    Calls Try.prog 19 #[.pointer (some ⟨g, 0, none⟩), .int .i64 n] w fun e w' => e = .returned (.int .u64 (numR st n).1) ∧ OpSt 58 w' base g (numR st n).2 ∧ FrO w w' base g := by
  have hb3 : Below w.heap.size w (((w.alloc (.cells #[.pointer (some ⟨g, 0, none⟩)] 42)).alloc (.cells #[.int .i64 n] 3)).alloc (.cells #[.int .u64 0] 33)) :=
    (((Below.refl _ _).alloc (Nat.le_refl _) _).alloc (by simp) _).alloc (by simp; omega) _
  have P : Calls Try.prog 31 #[.pointer (some ⟨g, 0, none⟩), .func (.func 35) #[] #[.pointer (some ⟨w.heap.size, 0, none⟩), .pointer (some ⟨w.heap.size + 1, 0, none⟩), .pointer (some ⟨w.heap.size + 1 + 1, 0, none⟩)]]
      (((w.alloc (.cells #[.pointer (some ⟨g, 0, none⟩)] 42)).alloc (.cells #[.int .i64 n] 3)).alloc (.cells #[.int .u64 0] 33)) fun e w' => e = .returned (.tuple #[]) ∧
      OpSt 58 w' base g (numR st n).2 ∧ FrO w w' base g ∧ Blk w' (w.heap.size + 1 + 1) 33 #[.int .u64 (numR st n).1] := by
    have k1 : Blk (((w.alloc (.cells #[.pointer (some ⟨g, 0, none⟩)] 42)).alloc (.cells #[.int .i64 n] 3)).alloc (.cells #[.int .u64 0] 33)) w.heap.size 42 #[.pointer (some ⟨g, 0, none⟩)] :=
      ((Blk.new w _ _).below ((Below.refl _ _).alloc (Nat.le_refl _) _)).below ((Below.refl _ _).alloc (Nat.le_refl _) _)
    have k2 : Blk (((w.alloc (.cells #[.pointer (some ⟨g, 0, none⟩)] 42)).alloc (.cells #[.int .i64 n] 3)).alloc (.cells #[.int .u64 0] 33)) (w.heap.size + 1) 3 #[.int .i64 n] := by
      have := (Blk.new (w.alloc (.cells #[.pointer (some ⟨g, 0, none⟩)] 42)) 3 #[.int .i64 n]).below ((Below.refl _ _).alloc (Nat.le_refl _) (.cells #[.int .u64 0] 33))
      simpa using this
    have k3 : Blk (((w.alloc (.cells #[.pointer (some ⟨g, 0, none⟩)] 42)).alloc (.cells #[.int .i64 n] 3)).alloc (.cells #[.int .u64 0] 33)) (w.heap.size + 1 + 1) 33 #[.int .u64 0] := by
      have := Blk.new ((w.alloc (.cells #[.pointer (some ⟨g, 0, none⟩)] 42)).alloc (.cells #[.int .i64 n] 3)) 33 #[.int .u64 0]
      simpa using this
    have hsz : w.heap.size ≤ (((w.alloc (.cells #[.pointer (some ⟨g, 0, none⟩)] 42)).alloc (.cells #[.int .i64 n] 3)).alloc (.cells #[.int .u64 0] 33)).heap.size := hb3.size
    generalize (((w.alloc (.cells #[.pointer (some ⟨g, 0, none⟩)] 42)).alloc (.cells #[.int .i64 n] 3)).alloc (.cells #[.int .u64 0] 33)) = W at hb3 k1 k2 k3 hsz ⊢
    have hbW : Below W.heap.size W (oboxed W g) := (Below.refl _ _).alloc (Nat.le_refl _) _
    have hbsz := hbW.size
    have hf0 : FrO w W base g := Fr.of_below hb3 hbase
    have hf1 : FrO W (oboxed W g) base g := Fr.of_below hbW (by omega)
    have kb : Blk (oboxed W g) W.heap.size 42 #[.pointer (some ⟨g, 0, none⟩)] := Blk.new _ _ _
    cases st with
    | none =>
      obtain ⟨s, hs⟩ := hp
      have hpW : Blk W g 58 #[.string s, .bool true] := hs.blk.below hb3
      refine (get_skip g s _ W hpW).mono ?_
      rintro e w' ⟨rfl, rfl⟩
      exact ⟨rfl, ⟨s, hpW.below hbW, hs.ge⟩, hf0.trans hf1, k3.below hbW⟩
    | some s =>
      obtain ⟨hs, hsz63⟩ := hp
      have hpW : OpAt 58 W base g s false := ⟨hs.blk.below hb3, hs.ge⟩
      have hpO : OpAt 58 (oboxed W g) base g s false := ⟨hpW.blk.below hbW, hs.ge⟩
      simp only [numR]
      by_cases hc : szB n = true ∧ n ≤ s.size
      · rw [if_pos hc]
        obtain ⟨m, rfl⟩ := Int.eq_ofNat_of_zero_le (show 0 ≤ n by have := (szB_iff n).1 hc.1; omega)
        have hm := (szB_iff (m : Int)).1 hc.1
        rw [Int.toNat_natCast]
        refine (get_ret g s 35 _ W (fun w' => OpSt 58 w' base g (some (s.extract m s.size)) ∧ FrO w w' base g ∧ Blk w' (w.heap.size + 1 + 1) 33 #[.int .u64 (valOf (ints (s.extract 0 m)))]) hpW.blk (enters35 _) ?_).mono ?_
        · refine (onum1_ok base g _ _ _ m s 0 (oboxed W g) hpO (by omega) (k1.below hbW) (k2.below hbW) (k3.below hbW) (by omega) (by omega) hsz63).mono ?_
          rintro e w' ⟨rfl, w1, hp1, hf2, rfl⟩
          have k3' : Blk w1 (w.heap.size + 1 + 1) 33 #[.int .u64 0] := (k3.below hbW).same (hf2.same _ (k3.below hbW).lt ((k3.below hbW).ne_ hpO.blk (by decide)) (by simp [Value.ownBlock]))
          have hne : g ≠ w.heap.size + 1 + 1 := (hp1.blk.ne_ k3' (by decide))
          refine ⟨rfl, ⟨⟨hp1.blk.same (Below.heap_setCell _ _ _ _ hne), hp1.ge⟩, by simp [ByteArray.size_extract]; omega⟩, ?_, ?_⟩
          · have ft := (hf0.trans hf1).trans hf2
            refine ⟨ft.below.setCell (by show base ≤ w.heap.size + 1 + 1; omega) _, fun k hk hkg hkv => ?_, .inl rfl⟩
            rw [Below.heap_setCell _ _ _ _ (by show k ≠ w.heap.size + 1 + 1; omega)]
            exact ft.same k hk hkg hkv
          · have := k3'.set_ 0 (.int .u64 (valOf (ints (s.extract 0 m))))
            simpa using this
        · rintro e w' ⟨rfl, h1, h2, h3⟩
          exact ⟨rfl, h1, h2, h3⟩
      · rw [if_neg hc]
        refine (get_pan g s 35 _ W (fun w' => oboxed W g = w') hpW.blk (enters35 _) ?_).mono ?_
        · refine (onum1_bad base g _ _ _ n s (oboxed W g) hpO (k1.below hbW) (k2.below hbW) ?_).mono ?_
          · by_cases h1 : szB n = true
            · right; have : ¬ n ≤ s.size := fun h => hc ⟨h1, h⟩; omega
            · left; simpa using h1
          · rintro e w' ⟨rfl, rfl⟩
            exact ⟨rfl, rfl, kb, s, hpO.blk⟩
        · rintro e w' ⟨rfl, w1, rfl, rfl⟩
          obtain ⟨h1, h2⟩ := spoilt_after hpO (hf0.trans hf1)
          refine ⟨rfl, ⟨s, h1⟩, h2, ?_⟩
          have hne : w.heap.size + 1 + 1 ≠ g := ((k3.below hbW).ne_ hpO.blk (by decide))
          have h3 : Blk ((oboxed W g).setCell ⟨g, 1, none⟩ (.bool true)) (w.heap.size + 1 + 1) 33 #[.int .u64 0] := (k3.below hbW).same (Below.heap_setCell _ _ _ _ hne)
          exact h3.below ((Below.refl _ _).alloc (Nat.le_refl _) _)
  have HP := Lib.hid P
  clear P
  have hmf : ∀ (fn : Fn) (first cap : Array Value) (w : World), (Instr.makeFunc fn first cap).run Try.prog w = .ok (.func fn first cap) w := fun _ _ _ _ => rfl
  go_enter Try.func19, Try.ntmps19
  go_wp2_with fail
  refine HP.out.mono ?_
  rintro e w1 ⟨rfl, hq1, hq2, hq3⟩
  have c3 := hq3.cell 0
  have Hq1 := Lib.hid hq1
  clear hq1
  go_wp2_with fail
  go_ret
  exact ⟨rfl, Hq1.out, hq2⟩

/-- The closure in Text: the number is none, or too great, or the bytes are too few. -/
theorem otext1_bad1 (base g bo bm bt : Nat) (s : ByteArray) (w : World) (hp : OpAt 58 w base g s false)
    (h1 : Blk w bo 42 #[.pointer (some ⟨g, 0, none⟩)]) (hn : s.size < 2) :
    Calls Try.prog 32 #[.pointer (some ⟨bo, 0, none⟩), .pointer (some ⟨bm, 0, none⟩), .pointer (some ⟨bt, 0, none⟩)] w fun e w' =>
      e = .panicked [{ v := .iface 60 (.agg #[]), recovered := false }] ∧ w = w' := by
  have c1 := h1.cell 0
  have HN := Lib.hid (onum_bad base g 2 s false w hp (.inr (by omega)))
  clear hn
  go_enter Try.func32, Try.ntmps32
  go_wp2_with fail
  refine HN.out.mono ?_
  rintro e w1 ⟨rfl, rfl⟩
  exact ⟨rfl, rfl, rfl⟩

theorem two_range (s : ByteArray) (h : 2 ≤ s.size) : 0 ≤ valOf (ints (s.extract 0 2)) ∧ valOf (ints (s.extract 0 2)) < 65536 := by
  have h1 := valOf_range (ints (s.extract 0 2)) (ints_range _)
  rw [ints_length, show (s.extract 0 2).size = 2 by simp [ByteArray.size_extract]; omega] at h1
  simpa using h1

set_option maxHeartbeats 1000000 in
theorem otext1_bad2 (base g bo bm bt : Nat) (most : Int) (s : ByteArray) (w : World) (hp : OpAt 58 w base g s false) (hbase : base ≤ w.heap.size) (hs : s.size ≤ 9223372036854775807)
    (h1 : Blk w bo 42 #[.pointer (some ⟨g, 0, none⟩)]) (h2 : Blk w bm 3 #[.int .i64 most]) (hn : 2 ≤ s.size)
    (hb : most < valOf (ints (s.extract 0 2)) ∨ ((s.extract 2 s.size).size : Int) < valOf (ints (s.extract 0 2))) :
    Calls Try.prog 32 #[.pointer (some ⟨bo, 0, none⟩), .pointer (some ⟨bm, 0, none⟩), .pointer (some ⟨bt, 0, none⟩)] w fun e w' =>
      e = .panicked [{ v := .iface 60 (.agg #[]), recovered := false }] ∧ OpAt 58 w' base g (s.extract 2 s.size) false ∧ FrO w w' base g := by
  have c1 := h1.cell 0
  have hv := two_range s hn
  have hN := onum_ok base g 2 s false w hp hbase (by omega) hn hs
  generalize valOf (ints (s.extract 0 2)) = n at hv hN hb ⊢
  generalize s.extract 2 s.size = r at hN hb ⊢
  have HN := Lib.hid hN
  have Hb := Lib.hid hb
  clear hb hN
  go_enter Try.func32, Try.ntmps32
  go_wp2_with fail
  refine HN.out.mono ?_
  rintro e w1 ⟨rfl, hp1, hf1⟩
  have b1 : Blk w1 bo 42 #[.pointer (some ⟨g, 0, none⟩)] := h1.same (hf1.same bo h1.lt (h1.ne_ hp.blk (by decide)) (by simp [Value.ownBlock]))
  have b2 : Blk w1 bm 3 #[.int .i64 most] := h2.same (hf1.same bm h2.lt (h2.ne_ hp.blk (by decide)) (by simp [Value.ownBlock]))
  clear c1 HN
  have c1 := b1.cell 0
  have c2 := b2.cell 0
  have Hb2 := Hb.out
  clear Hb
  by_cases h3 : most < n
  · clear Hb2
    go_wp2_with fail
    exact ⟨rfl, rfl, hp1, hf1⟩
  · have h4 : (r.size : Int) < n := by rcases Hb2 with h | h; exact absurd h h3; exact h
    have HT := Lib.hid (take_bad base g n r false w1 hp1 h4)
    clear h4 Hb2
    go_wp2_with fail
    refine HT.out.mono ?_
    rintro e w2 ⟨rfl, rfl⟩
    exact ⟨rfl, rfl, hp1, hf1⟩

set_option maxHeartbeats 1000000 in
theorem otext1_ok (base g bo bm bt : Nat) (most : Int) (s : ByteArray) (u : ByteArray) (w : World) (hp : OpAt 58 w base g s false) (hbase : base ≤ w.heap.size) (hs : s.size ≤ 9223372036854775807)
    (h1 : Blk w bo 42 #[.pointer (some ⟨g, 0, none⟩)]) (h2 : Blk w bm 3 #[.int .i64 most]) (h3 : Blk w bt 9 #[.string u]) (hn : 2 ≤ s.size)
    (hb1 : valOf (ints (s.extract 0 2)) ≤ most) (hb2 : valOf (ints (s.extract 0 2)) ≤ ((s.extract 2 s.size).size : Int)) :
    Calls Try.prog 32 #[.pointer (some ⟨bo, 0, none⟩), .pointer (some ⟨bm, 0, none⟩), .pointer (some ⟨bt, 0, none⟩)] w fun e w' => e = .returned (.tuple #[]) ∧
      ∃ w1, OpAt 58 w1 base g ((s.extract 2 s.size).extract (valOf (ints (s.extract 0 2))).toNat (s.extract 2 s.size).size) false ∧ FrO w w1 base g ∧
        w' = w1.setCell ⟨bt, 0, none⟩ (.string ((s.extract 2 s.size).extract 0 (valOf (ints (s.extract 0 2))).toNat)) := by
  have c1 := h1.cell 0
  have hv := two_range s hn
  have hN := onum_ok base g 2 s false w hp hbase (by omega) hn hs
  have hrs : (s.extract 2 s.size).size ≤ s.size := by simp [ByteArray.size_extract]
  generalize valOf (ints (s.extract 0 2)) = n at hv hN hb1 hb2 ⊢
  generalize s.extract 2 s.size = r at hN hb2 hrs ⊢
  obtain ⟨m, rfl⟩ := Int.eq_ofNat_of_zero_le hv.1
  rw [Int.toNat_natCast]
  have HN := Lib.hid hN
  clear hN
  go_enter Try.func32, Try.ntmps32
  go_wp2_with fail
  refine HN.out.mono ?_
  rintro e w1 ⟨rfl, hp1, hf1⟩
  have b1 : Blk w1 bo 42 #[.pointer (some ⟨g, 0, none⟩)] := h1.same (hf1.same bo h1.lt (h1.ne_ hp.blk (by decide)) (by simp [Value.ownBlock]))
  have b2 : Blk w1 bm 3 #[.int .i64 most] := h2.same (hf1.same bm h2.lt (h2.ne_ hp.blk (by decide)) (by simp [Value.ownBlock]))
  have b3 : Blk w1 bt 9 #[.string u] := h3.same (hf1.same bt h3.lt (h3.ne_ hp.blk (by decide)) (by simp [Value.ownBlock]))
  clear c1 HN
  have c1 := b1.cell 0
  have c2 := b2.cell 0
  have HT := Lib.hid (take_ok base g m r false w1 hp1 (by omega) (by omega))
  have hne : g ≠ bt := hp1.blk.ne_ b3 (by decide)
  have b3' : Blk (w1.setCell ⟨g, 0, none⟩ (.string (r.extract m r.size))) bt 9 #[.string u] := b3.same (Below.heap_setCell _ _ _ _ (by show bt ≠ g; omega))
  have c3 := b3'.cell 0
  have f3 := b3'.frozen 0
  go_wp2_with fail
  refine HT.out.mono ?_
  rintro e w2 ⟨rfl, rfl⟩
  clear HT c1 c2
  go_wp2_with fail
  go_end0
  refine ⟨rfl, _, ⟨?_, hp1.ge⟩, hf1.trans (PkAt.fr_set 0 _ _ hp1.ge), rfl⟩
  have := hp1.blk.set_ 0 (.string (r.extract m r.size))
  simpa using this

set_option maxHeartbeats 1000000 in
/-- THE CONTRACT of Text. -/
theorem OText_calls (base g : Nat) (st : Option ByteArray) (most : Int) (w : World) (hp : OpSt 58 w base g st) (hbase : base ≤ w.heap.size) :
    Calls Try.prog 17 #[.pointer (some ⟨g, 0, none⟩), .int .i64 most] w fun e w' => e = .returned (.string (textR st most).1) ∧ OpSt 58 w' base g (textR st most).2 ∧ FrO w w' base g := by
  have hb3 : Below w.heap.size w (((w.alloc (.cells #[.pointer (some ⟨g, 0, none⟩)] 42)).alloc (.cells #[.int .i64 most] 3)).alloc (.cells #[.string ByteArray.empty] 9)) :=
    (((Below.refl _ _).alloc (Nat.le_refl _) _).alloc (by simp) _).alloc (by simp; omega) _
  have P : Calls Try.prog 31 #[.pointer (some ⟨g, 0, none⟩), .func (.func 32) #[] #[.pointer (some ⟨w.heap.size, 0, none⟩), .pointer (some ⟨w.heap.size + 1, 0, none⟩), .pointer (some ⟨w.heap.size + 1 + 1, 0, none⟩)]]
      (((w.alloc (.cells #[.pointer (some ⟨g, 0, none⟩)] 42)).alloc (.cells #[.int .i64 most] 3)).alloc (.cells #[.string ByteArray.empty] 9)) fun e w' => e = .returned (.tuple #[]) ∧
      OpSt 58 w' base g (textR st most).2 ∧ FrO w w' base g ∧ Blk w' (w.heap.size + 1 + 1) 9 #[.string (textR st most).1] := by
    have k1 : Blk (((w.alloc (.cells #[.pointer (some ⟨g, 0, none⟩)] 42)).alloc (.cells #[.int .i64 most] 3)).alloc (.cells #[.string ByteArray.empty] 9)) w.heap.size 42 #[.pointer (some ⟨g, 0, none⟩)] :=
      ((Blk.new w _ _).below ((Below.refl _ _).alloc (Nat.le_refl _) _)).below ((Below.refl _ _).alloc (Nat.le_refl _) _)
    have k2 : Blk (((w.alloc (.cells #[.pointer (some ⟨g, 0, none⟩)] 42)).alloc (.cells #[.int .i64 most] 3)).alloc (.cells #[.string ByteArray.empty] 9)) (w.heap.size + 1) 3 #[.int .i64 most] := by
      have := (Blk.new (w.alloc (.cells #[.pointer (some ⟨g, 0, none⟩)] 42)) 3 #[.int .i64 most]).below ((Below.refl _ _).alloc (Nat.le_refl _) (.cells #[.string ByteArray.empty] 9))
      simpa using this
    have k3 : Blk (((w.alloc (.cells #[.pointer (some ⟨g, 0, none⟩)] 42)).alloc (.cells #[.int .i64 most] 3)).alloc (.cells #[.string ByteArray.empty] 9)) (w.heap.size + 1 + 1) 9 #[.string ByteArray.empty] := by
      have := Blk.new ((w.alloc (.cells #[.pointer (some ⟨g, 0, none⟩)] 42)).alloc (.cells #[.int .i64 most] 3)) 9 #[.string ByteArray.empty]
      simpa using this
    have hsz : w.heap.size ≤ (((w.alloc (.cells #[.pointer (some ⟨g, 0, none⟩)] 42)).alloc (.cells #[.int .i64 most] 3)).alloc (.cells #[.string ByteArray.empty] 9)).heap.size := hb3.size
    generalize (((w.alloc (.cells #[.pointer (some ⟨g, 0, none⟩)] 42)).alloc (.cells #[.int .i64 most] 3)).alloc (.cells #[.string ByteArray.empty] 9)) = W at hb3 k1 k2 k3 hsz ⊢
    have hbW : Below W.heap.size W (oboxed W g) := (Below.refl _ _).alloc (Nat.le_refl _) _
    have hbsz := hbW.size
    have hf0 : FrO w W base g := Fr.of_below hb3 hbase
    have hf1 : FrO W (oboxed W g) base g := Fr.of_below hbW (by omega)
    have kb : Blk (oboxed W g) W.heap.size 42 #[.pointer (some ⟨g, 0, none⟩)] := Blk.new _ _ _
    have spoil : ∀ (s' : ByteArray) (w1 : World), OpAt 58 w1 base g s' false → FrO (oboxed W g) w1 base g →
        OpSt 58 (spoiltBy w1 g) base g none ∧ FrO w (spoiltBy w1 g) base g ∧ Blk (spoiltBy w1 g) (w.heap.size + 1 + 1) 9 #[.string ByteArray.empty] := by
      intro s' w1 hp1 hf2
      obtain ⟨h1, h2⟩ := spoilt_after hp1 ((hf0.trans hf1).trans hf2)
      refine ⟨⟨s', h1⟩, h2, ?_⟩
      have k3' : Blk w1 (w.heap.size + 1 + 1) 9 #[.string ByteArray.empty] := (k3.below hbW).same (hf2.same _ (k3.below hbW).lt (fun hh => by
        have hg2 := hp1.ge
        rcases Nat.lt_or_ge g (oboxed W g).heap.size with hl | hl
        · have := hp1.blk
          rw [← hh] at this
          exact absurd rfl (fun _ : (0 : Nat) = 0 => by
            cases st with
            | none =>
              obtain ⟨s0, hs0⟩ := hp
              exact ((k3.below hbW).ne_ ((hs0.blk.below hb3).below hbW) (by decide)) hh
            | some s0 => exact ((k3.below hbW).ne_ ((hp.1.blk.below hb3).below hbW) (by decide)) hh)
        · have := (k3.below hbW).lt; omega) (by simp [Value.ownBlock]))
      have hne : w.heap.size + 1 + 1 ≠ g := k3'.ne_ hp1.blk (by decide)
      have h3 : Blk (w1.setCell ⟨g, 1, none⟩ (.bool true)) (w.heap.size + 1 + 1) 9 #[.string ByteArray.empty] := k3'.same (Below.heap_setCell _ _ _ _ hne)
      exact h3.below ((Below.refl _ _).alloc (Nat.le_refl _) _)
    cases st with
    | none =>
      obtain ⟨s, hs⟩ := hp
      have hpW : Blk W g 58 #[.string s, .bool true] := hs.blk.below hb3
      refine (get_skip g s _ W hpW).mono ?_
      rintro e w' ⟨rfl, rfl⟩
      exact ⟨rfl, ⟨s, hpW.below hbW, hs.ge⟩, hf0.trans hf1, k3.below hbW⟩
    | some s =>
      obtain ⟨hs, hsz63⟩ := hp
      have hpW : OpAt 58 W base g s false := ⟨hs.blk.below hb3, hs.ge⟩
      have hpO : OpAt 58 (oboxed W g) base g s false := ⟨hpW.blk.below hbW, hs.ge⟩
      have kbO : ∀ w1, FrO (oboxed W g) w1 base g → Blk w1 W.heap.size 42 #[.pointer (some ⟨g, 0, none⟩)] := fun w1 hf =>
        kb.same (hf.same _ kb.lt (kb.ne_ hpO.blk (by decide)) (by simp [Value.ownBlock]))
      simp only [textR]
      by_cases hc : s.size < 2
      · rw [if_pos hc]
        refine (get_pan g s 32 _ W (fun w' => oboxed W g = w') hpW.blk (enters32 _) ?_).mono ?_
        · refine (otext1_bad1 base g _ _ _ s (oboxed W g) hpO (k1.below hbW) hc).mono ?_
          rintro e w' ⟨rfl, rfl⟩
          exact ⟨rfl, rfl, kb, s, hpO.blk⟩
        · rintro e w' ⟨rfl, w1, rfl, rfl⟩
          exact ⟨rfl, spoil s _ hpO (Fr.refl _ _ _ _)⟩
      · rw [if_neg hc]
        by_cases hc2 : most < valOf (ints (s.extract 0 2)) ∨ ((s.extract 2 s.size).size : Int) < valOf (ints (s.extract 0 2))
        · have e1 : (if most < valOf (ints (s.extract 0 2)) then (ByteArray.empty, (none : Option ByteArray)) else if ((s.extract 2 s.size).size : Int) < valOf (ints (s.extract 0 2)) then (ByteArray.empty, none)
              else ((s.extract 2 s.size).extract 0 (valOf (ints (s.extract 0 2))).toNat, some ((s.extract 2 s.size).extract (valOf (ints (s.extract 0 2))).toNat (s.extract 2 s.size).size))) = (ByteArray.empty, none) := by
            by_cases h : most < valOf (ints (s.extract 0 2))
            · rw [if_pos h]
            · rw [if_neg h, if_pos (hc2.resolve_left h)]
          rw [e1]
          refine (get_pan g s 32 _ W (fun w' => OpAt 58 w' base g (s.extract 2 s.size) false ∧ FrO (oboxed W g) w' base g) hpW.blk (enters32 _) ?_).mono ?_
          · refine (otext1_bad2 base g _ _ _ most s (oboxed W g) hpO (by omega) hsz63 (k1.below hbW) (k2.below hbW) (by omega) hc2).mono ?_
            rintro e w' ⟨rfl, h1, h2⟩
            exact ⟨rfl, ⟨h1, h2⟩, kbO _ h2, _, h1.blk⟩
          · rintro e w' ⟨rfl, w1, ⟨h1, h2⟩, rfl⟩
            exact ⟨rfl, spoil _ _ h1 h2⟩
        · have h1 : ¬ most < valOf (ints (s.extract 0 2)) := fun h => hc2 (.inl h)
          have h2 : ¬ ((s.extract 2 s.size).size : Int) < valOf (ints (s.extract 0 2)) := fun h => hc2 (.inr h)
          rw [if_neg h1, if_neg h2]
          refine (get_ret g s 32 _ W (fun w' => OpSt 58 w' base g (some ((s.extract 2 s.size).extract (valOf (ints (s.extract 0 2))).toNat (s.extract 2 s.size).size)) ∧ FrO w w' base g ∧
            Blk w' (w.heap.size + 1 + 1) 9 #[.string ((s.extract 2 s.size).extract 0 (valOf (ints (s.extract 0 2))).toNat)]) hpW.blk (enters32 _) ?_).mono ?_
          · refine (otext1_ok base g _ _ _ most s ByteArray.empty (oboxed W g) hpO (by omega) hsz63 (k1.below hbW) (k2.below hbW) (k3.below hbW) (by omega) (by omega) (by omega)).mono ?_
            rintro e w' ⟨rfl, w1, hp1, hf2, rfl⟩
            have k3' : Blk w1 (w.heap.size + 1 + 1) 9 #[.string ByteArray.empty] := (k3.below hbW).same (hf2.same _ (k3.below hbW).lt ((k3.below hbW).ne_ hpO.blk (by decide)) (by simp [Value.ownBlock]))
            have hne : g ≠ w.heap.size + 1 + 1 := (hp1.blk.ne_ k3' (by decide))
            refine ⟨rfl, ⟨⟨hp1.blk.same (Below.heap_setCell _ _ _ _ hne), hp1.ge⟩, by simp [ByteArray.size_extract]; omega⟩, ?_, ?_⟩
            · have ft := (hf0.trans hf1).trans hf2
              refine ⟨ft.below.setCell (by show base ≤ w.heap.size + 1 + 1; omega) _, fun k hk hkg hkv => ?_, .inl rfl⟩
              rw [Below.heap_setCell _ _ _ _ (by show k ≠ w.heap.size + 1 + 1; omega)]
              exact ft.same k hk hkg hkv
            · have := k3'.set_ 0 (.string ((s.extract 2 s.size).extract 0 (valOf (ints (s.extract 0 2))).toNat))
              simpa using this
          · rintro e w' ⟨rfl, h1, h2, h3⟩
            exact ⟨rfl, h1, h2, h3⟩
  have HP := Lib.hid P
  clear P
  have hmf : ∀ (fn : Fn) (first cap : Array Value) (w : World), (Instr.makeFunc fn first cap).run Try.prog w = .ok (.func fn first cap) w := fun _ _ _ _ => rfl
  go_enter Try.func17, Try.ntmps17
  go_wp2_with fail
  refine HP.out.mono ?_
  rintro e w1 ⟨rfl, hq1, hq2, hq3⟩
  have c3 := hq3.cell 0
  have Hq1 := Lib.hid hq1
  clear hq1
  go_wp2_with fail
  go_ret
  exact ⟨rfl, Hq1.out, hq2⟩
end Go.Proofs.Ythblcoccoffofaa.Pk
