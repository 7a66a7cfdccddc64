/- The contracts of (*Packer).Num, Text, Done. -/
import Derived.Test.YthblcoccoffofaaPk2
import Derived.Test.YthblcoccoffofaaPk3
import Derived.Laws.BytesArg
namespace Go.Proofs.Ythblcoccoffofaa.Pk
open Go.RowKit

theorem enters29 (caps : Array Value) (W : World) : (callFunc 29 caps).run Try.prog W = .ok (.enter 29 caps) W := by simp [go_sem]
theorem enters25 (caps : Array Value) (W : World) : (callFunc 25 caps).run Try.prog W = .ok (.enter 25 caps) W := by simp [go_sem]

/-- What Num makes of the bytes and the error. -/
def numStep (l : List Int) (e V n : Int) : List Int × Int :=
  if e ≠ 0 then (l, e)
  else if szB n = true ∧ V < 256 ^ n.toNat then (l ++ bytesOf V n.toNat, if 60000 < (l ++ bytesOf V n.toNat).length then 2 else 0)
  else (l, 11)

/-- The closure in Num. -/
theorem num1_ok (base g bp bv bs : Nat) (vb : Value) (l : List Int) (e0 V : Int) (n : Nat) (w : World) (hp : PkAt 29 5 w base g vb l e0) (hbase : base ≤ w.heap.size)
    (h1 : Blk w bp 25 #[.pointer (some ⟨g, 0, none⟩)]) (h2 : Blk w bv 33 #[.int .u64 V]) (h3 : Blk w bs 3 #[.int .i64 (n : Int)])
    (hn : n = 1 ∨ n = 2 ∨ n = 4 ∨ n = 8) (hV0 : 0 ≤ V) (hV : V < 256 ^ n) (hl : l.length ≤ 1000000000) :
    Calls Try.prog 29 #[.pointer (some ⟨bp, 0, none⟩), .pointer (some ⟨bv, 0, none⟩), .pointer (some ⟨bs, 0, none⟩)] w fun e w' => e = .returned (.tuple #[]) ∧
      ∃ vb', PkAt 29 5 w' base g vb' (l ++ bytesOf V n) e0 ∧ Fr w w' base g vb vb' := by
  have c1 := h1.cell 0
  have c2 := h2.cell 0
  have c3 := h3.cell 0
  have HN := Lib.hid (num_ok base g vb l e0 V n w hp hbase hn hV0 hV hl)
  go_enter Try.func29, Try.ntmps29
  go_wp2_with fail
  refine HN.out.mono ?_
  rintro e w1 ⟨rfl, hq⟩
  have Hq := Lib.hid hq
  clear hq
  go_wp2_with fail
  go_end0
  exact ⟨rfl, Hq.out⟩

theorem num1_bad (g bp bv bs : Nat) (V n : Int) (w : World)
    (h1 : Blk w bp 25 #[.pointer (some ⟨g, 0, none⟩)]) (h2 : Blk w bv 33 #[.int .u64 V]) (h3 : Blk w bs 3 #[.int .i64 n])
    (hV0 : 0 ≤ V) (hV64 : V < 18446744073709551616) (hn : szB n = false ∨ (n < 8 ∧ 256 ^ n.toNat ≤ V)) :
    Calls Try.prog 29 #[.pointer (some ⟨bp, 0, none⟩), .pointer (some ⟨bv, 0, none⟩), .pointer (some ⟨bs, 0, none⟩)] w fun e w' =>
      e = .panicked [{ v := .iface 27 (.int .i64 11), recovered := false }] ∧ w = w' := by
  have c1 := h1.cell 0
  have c2 := h2.cell 0
  have c3 := h3.cell 0
  have HN := Lib.hid (num_bad g V n w hV0 hV64 hn)
  clear hn hV64
  go_enter Try.func29, Try.ntmps29
  go_wp2_with fail
  refine HN.out.mono ?_
  rintro e w1 ⟨rfl, rfl⟩
  exact ⟨rfl, rfl, rfl⟩

theorem Blk.below {w w1 : World} {g : Nat} {t : TypeId} {cs : Array Value} (h : Blk w g t cs) (hb : Below w.heap.size w w1) : Blk w1 g t cs := h.same (hb.block g h.lt)

set_option maxHeartbeats 1000000 in
/-- THE CONTRACT of Num. -/
theorem Num_calls (base g : Nat) (vb : Value) (l : List Int) (e0 V n : Int) (w : World) (hp : PkAt 29 5 w base g vb l e0) (hbase : base ≤ w.heap.size)
    (hV0 : 0 ≤ V) (hV64 : V < 18446744073709551616) (hl : e0 = 0 → l.length ≤ 1000000) :
    Calls Try.prog 12 #[.pointer (some ⟨g, 0, none⟩), .int .u64 V, .int .i64 n] w fun e w' => e = .returned (.tuple #[]) ∧
      ∃ vb', PkAt 29 5 w' base g vb' (numStep l e0 V n).1 (numStep l e0 V n).2 ∧ Fr w w' base g vb vb' := by
  have hb3 : Below w.heap.size w (((w.alloc (.cells #[.pointer (some ⟨g, 0, none⟩)] 25)).alloc (.cells #[.int .u64 V] 33)).alloc (.cells #[.int .i64 n] 3)) :=
    (((Below.refl _ _).alloc (Nat.le_refl _) _).alloc (by simp) _).alloc (by simp; omega) _
  have P : Calls Try.prog 24 #[.pointer (some ⟨g, 0, none⟩), .func (.func 29) #[] #[.pointer (some ⟨w.heap.size, 0, none⟩), .pointer (some ⟨w.heap.size + 1, 0, none⟩), .pointer (some ⟨w.heap.size + 1 + 1, 0, none⟩)]]
      (((w.alloc (.cells #[.pointer (some ⟨g, 0, none⟩)] 25)).alloc (.cells #[.int .u64 V] 33)).alloc (.cells #[.int .i64 n] 3)) fun e w' => e = .returned (.tuple #[]) ∧
      ∃ vb', PkAt 29 5 w' base g vb' (numStep l e0 V n).1 (numStep l e0 V n).2 ∧ Fr w w' base g vb vb' := by
    have k1 : Blk (((w.alloc (.cells #[.pointer (some ⟨g, 0, none⟩)] 25)).alloc (.cells #[.int .u64 V] 33)).alloc (.cells #[.int .i64 n] 3)) w.heap.size 25 #[.pointer (some ⟨g, 0, none⟩)] :=
      ((Blk.new w _ _).below ((Below.refl _ _).alloc (Nat.le_refl _) _)).below ((Below.refl _ _).alloc (Nat.le_refl _) _)
    have k2 : Blk (((w.alloc (.cells #[.pointer (some ⟨g, 0, none⟩)] 25)).alloc (.cells #[.int .u64 V] 33)).alloc (.cells #[.int .i64 n] 3)) (w.heap.size + 1) 33 #[.int .u64 V] := by
      have := (Blk.new (w.alloc (.cells #[.pointer (some ⟨g, 0, none⟩)] 25)) 33 #[.int .u64 V]).below ((Below.refl _ _).alloc (Nat.le_refl _) (.cells #[.int .i64 n] 3))
      simpa using this
    have k3 : Blk (((w.alloc (.cells #[.pointer (some ⟨g, 0, none⟩)] 25)).alloc (.cells #[.int .u64 V] 33)).alloc (.cells #[.int .i64 n] 3)) (w.heap.size + 1 + 1) 3 #[.int .i64 n] := by
      have := Blk.new ((w.alloc (.cells #[.pointer (some ⟨g, 0, none⟩)] 25)).alloc (.cells #[.int .u64 V] 33)) 3 #[.int .i64 n]
      simpa using this
    have hsz : w.heap.size ≤ (((w.alloc (.cells #[.pointer (some ⟨g, 0, none⟩)] 25)).alloc (.cells #[.int .u64 V] 33)).alloc (.cells #[.int .i64 n] 3)).heap.size := hb3.size
    generalize (((w.alloc (.cells #[.pointer (some ⟨g, 0, none⟩)] 25)).alloc (.cells #[.int .u64 V] 33)).alloc (.cells #[.int .i64 n] 3)) = W at hb3 k1 k2 k3 hsz ⊢
    have hpW := hp.below hb3
    have hbW := boxed_below W g
    have hf0 : Fr w W base g vb vb := Fr.of_below hb3 hbase
    unfold numStep
    by_cases h0 : e0 = 0
    · subst h0
      rw [if_neg (by simp)]
      by_cases hs : szB n = true ∧ V < 256 ^ n.toNat
      · rw [if_pos hs]
        obtain ⟨m, rfl⟩ := Int.eq_ofNat_of_zero_le (show 0 ≤ n by have := (szB_iff n).1 hs.1; omega)
        have hm := (szB_iff (m : Int)).1 hs.1
        rw [Int.toNat_natCast] at hs ⊢
        refine (put_ret base g vb l (l ++ bytesOf V m) 29 _ W hpW (by omega) (enters29 _) ?_).mono ?_
        · exact num1_ok base g _ _ _ vb l 0 V m (boxed W g) (hpW.below hbW) (by have := hbW.size; omega) (k1.below hbW) (k2.below hbW) (k3.below hbW) (by omega) hV0 hs.2 (by have := hl rfl; omega)
        · rintro e w' ⟨rfl, v', h1, h2⟩
          exact ⟨rfl, v', h1, hf0.trans h2⟩
      · rw [if_neg hs]
        refine (put_pan base g vb l l 11 29 _ W hpW (by omega) (enters29 _) ?_).mono ?_
        · refine (num1_bad g _ _ _ V n (boxed W g) (k1.below hbW) (k2.below hbW) (k3.below hbW) hV0 hV64 ?_).mono ?_
          · by_cases h1 : szB n = true
            · right
              have h2 : ¬ V < 256 ^ n.toNat := fun h => hs ⟨h1, h⟩
              have h3 := (szB_iff n).1 h1
              refine ⟨?_, by omega⟩
              rcases h3 with h | h | h | h
              · omega
              · omega
              · omega
              · subst h; exact absurd hV64 (by simpa using h2)
            · left; simpa using h1
          · rintro e w' ⟨rfl, rfl⟩
            exact ⟨rfl, vb, hpW.below hbW, Fr.refl _ _ _ _⟩
        · rintro e w' ⟨rfl, v', h1, h2⟩
          exact ⟨rfl, v', h1, hf0.trans h2⟩
    · rw [if_pos h0]
      refine (put_skip g vb e0 _ W hpW.blk h0).mono ?_
      rintro e w' ⟨rfl, rfl⟩
      exact ⟨rfl, vb, hpW.below hbW, hf0.trans (Fr.of_below hbW (by omega))⟩
  have HP := Lib.hid P
  clear P hV64 hl
  have hmf : ∀ (fn : Fn) (first cap : Array Value) (w : World), (Instr.makeFunc fn first cap).run Try.prog w = .ok (.func fn first cap) w := fun _ _ _ _ => rfl
  go_enter Try.func12, Try.ntmps12
  go_wp2_with fail
  refine HP.out.mono ?_
  rintro e w1 ⟨rfl, hq⟩
  have Hq := Lib.hid hq
  clear hq
  go_wp2_with fail
  go_end0
  exact ⟨rfl, Hq.out⟩

/-- What Text makes of the bytes and the error. -/
def textStep (l : List Int) (e : Int) (s : ByteArray) : List Int × Int :=
  if e ≠ 0 then (l, e)
  else if 65535 < s.size then (l, 2)
  else (l ++ bytesOf s.size 2 ++ ints s, if 60000 < (l ++ bytesOf s.size 2 ++ ints s).length then 2 else 0)

theorem text1_long (bs bp : Nat) (s : ByteArray) (w : World) (h1 : Blk w bs 9 #[.string s]) (hs : 65535 < s.size) :
    Calls Try.prog 25 #[.pointer (some ⟨bs, 0, none⟩), .pointer (some ⟨bp, 0, none⟩)] w fun e w' =>
      e = .panicked [{ v := .iface 27 (.int .i64 2), recovered := false }] ∧ w = w' := by
  have c1 := h1.cell 0
  go_enter Try.func25, Try.ntmps25
  go_wp2_with fail
  exact ⟨rfl, rfl, rfl⟩

set_option maxHeartbeats 1000000 in
theorem text1_ok (base g bs bp : Nat) (vb : Value) (l : List Int) (e0 : Int) (s : ByteArray) (w : World) (hp : PkAt 29 5 w base g vb l e0) (hbase : base ≤ w.heap.size)
    (h1 : Blk w bs 9 #[.string s]) (h2 : Blk w bp 25 #[.pointer (some ⟨g, 0, none⟩)]) (hs : s.size ≤ 65535) (hl : l.length ≤ 1000000) :
    Calls Try.prog 25 #[.pointer (some ⟨bs, 0, none⟩), .pointer (some ⟨bp, 0, none⟩)] w fun e w' => e = .returned (.tuple #[]) ∧
      ∃ vb', PkAt 29 5 w' base g vb' (l ++ bytesOf s.size 2 ++ ints s) e0 ∧ Fr w w' base g vb vb' := by
  obtain ⟨i0, hi, hz0, hz1, hz2⟩ := info_parts info5
  have c1 := h1.cell 0
  have c2 := h2.cell 0
  have HN := Lib.hid (num_ok base g vb l e0 s.size 2 w hp hbase (by omega) (by omega) (by omega) (by omega))
  go_enter Try.func25, Try.ntmps25
  go_wp2_with fail
  refine HN.out.mono ?_
  rintro e w1 ⟨rfl, v1, hp1, hf1⟩
  clear HN
  have b1 : Blk w1 bs 9 #[.string s] := h1.same (hf1.same bs h1.lt (h1.ne_ hp.blk (by decide)) (own_blk_ne hp.row h1 (by decide)))
  have b2 : Blk w1 bp 25 #[.pointer (some ⟨g, 0, none⟩)] := h2.same (hf1.same bp h2.lt (h2.ne_ hp.blk (by decide)) (own_blk_ne hp.row h2 (by decide)))
  clear c1 c2
  have c1 := b1.cell 0
  have c2 := b2.cell 0
  have d0 := hp1.blk.cell 0
  obtain ⟨L, hL⟩ : ∃ L, l ++ bytesOf s.size 2 = L := ⟨_, rfl⟩
  rw [hL] at hp1
  have hll : L.length = l.length + 2 := by rw [← hL]; simp [bytesOf_length]
  have HL := Lib.hid hL
  have Hll := Lib.hid hll
  clear hL hll
  have hsz := hf1.below.size
  go_wp2_with fail
  have s1 := Lib.hid hp1.row
  go_region_law (refine step_append_str_lies _ rfl (.tmp 15) (.tmp 16) 26 9 rfl base 5 i0 Try.underlying26 Try.underlying9 hi hz0 hz1 hz2 v1 _ _ rfl s1.out.drew s rfl ?h2 ?h3 ?h4 ?_; (case h2 => rw [Hll.out]; unfold maxLen; omega); (case h3 => rw [Hll.out]; omega); (case h4 => simp; omega); intro A cap w2 hown hgrow hat; have kb := hp1.grown_blk (by decide) ((Below.refl _ _).drew) hgrow; have k0 := kb.cell 0; have kf := kb.frozen 0; clear kb; have kp := (b2.same (hgrow.block bp b2.lt (fun hh => own_blk_ne hp1.row b2 (by decide) hh.symm))).cell 0)
  all_goals
    have ho : w2.ownsRow base 5 1 (.slice A (L.length + s.size) cap) (L ++ ints s).length (nums .u8 (L ++ ints s)) := by
      rw [nums_append, List.length_append, ints_length, ← strCells_ints]; exact hown
    have R := hp1.grown (xs := ints s) (by decide) ((Below.refl _ _).drew) (by omega) hgrow ho hat
    rw [show L ++ ints s = l ++ bytesOf s.size 2 ++ ints s by rw [← HL.out]] at R
    have HR := Lib.hid R
    clear R ho hown hgrow hat k0 kf kp d0 c1 c2
    go_wp2
    go_end0
    exact ⟨rfl, _, HR.out.1, hf1.trans HR.out.2⟩

set_option maxHeartbeats 1000000 in
/-- THE CONTRACT of Text. -/
theorem Text_calls (base g : Nat) (vb : Value) (l : List Int) (e0 : Int) (s : ByteArray) (w : World) (hp : PkAt 29 5 w base g vb l e0) (hbase : base ≤ w.heap.size)
    (hl : e0 = 0 → l.length ≤ 1000000) :
    Calls Try.prog 10 #[.pointer (some ⟨g, 0, none⟩), .string s] w fun e w' => e = .returned (.tuple #[]) ∧
      ∃ vb', PkAt 29 5 w' base g vb' (textStep l e0 s).1 (textStep l e0 s).2 ∧ Fr w w' base g vb vb' := by
  have hb3 : Below w.heap.size w ((w.alloc (.cells #[.pointer (some ⟨g, 0, none⟩)] 25)).alloc (.cells #[.string s] 9)) :=
    ((Below.refl _ _).alloc (Nat.le_refl _) _).alloc (by simp) _
  have P : Calls Try.prog 24 #[.pointer (some ⟨g, 0, none⟩), .func (.func 25) #[] #[.pointer (some ⟨w.heap.size + 1, 0, none⟩), .pointer (some ⟨w.heap.size, 0, none⟩)]]
      ((w.alloc (.cells #[.pointer (some ⟨g, 0, none⟩)] 25)).alloc (.cells #[.string s] 9)) fun e w' => e = .returned (.tuple #[]) ∧
      ∃ vb', PkAt 29 5 w' base g vb' (textStep l e0 s).1 (textStep l e0 s).2 ∧ Fr w w' base g vb vb' := by
    have k1 : Blk ((w.alloc (.cells #[.pointer (some ⟨g, 0, none⟩)] 25)).alloc (.cells #[.string s] 9)) w.heap.size 25 #[.pointer (some ⟨g, 0, none⟩)] :=
      (Blk.new w _ _).below ((Below.refl _ _).alloc (Nat.le_refl _) _)
    have k2 : Blk ((w.alloc (.cells #[.pointer (some ⟨g, 0, none⟩)] 25)).alloc (.cells #[.string s] 9)) (w.heap.size + 1) 9 #[.string s] := by
      have := Blk.new (w.alloc (.cells #[.pointer (some ⟨g, 0, none⟩)] 25)) 9 #[.string s]
      simpa using this
    have hsz : w.heap.size ≤ ((w.alloc (.cells #[.pointer (some ⟨g, 0, none⟩)] 25)).alloc (.cells #[.string s] 9)).heap.size := hb3.size
    generalize ((w.alloc (.cells #[.pointer (some ⟨g, 0, none⟩)] 25)).alloc (.cells #[.string s] 9)) = W at hb3 k1 k2 hsz ⊢
    have hpW := hp.below hb3
    have hbW := boxed_below W g
    have hf0 : Fr w W base g vb vb := Fr.of_below hb3 hbase
    unfold textStep
    by_cases h0 : e0 = 0
    · subst h0
      rw [if_neg (by simp)]
      by_cases hs : 65535 < s.size
      · rw [if_pos hs]
        refine (put_pan base g vb l l 2 25 _ W hpW (by omega) (enters25 _) ?_).mono ?_
        · refine (text1_long _ _ s (boxed W g) (k2.below hbW) hs).mono ?_
          rintro e w' ⟨rfl, rfl⟩
          exact ⟨rfl, vb, hpW.below hbW, Fr.refl _ _ _ _⟩
        · rintro e w' ⟨rfl, v', h1, h2⟩
          exact ⟨rfl, v', h1, hf0.trans h2⟩
      · rw [if_neg hs]
        refine (put_ret base g vb l (l ++ bytesOf s.size 2 ++ ints s) 25 _ W hpW (by omega) (enters25 _) ?_).mono ?_
        · exact text1_ok base g _ _ vb l 0 s (boxed W g) (hpW.below hbW) (by have := hbW.size; omega) (k2.below hbW) (k1.below hbW) (by omega) (by have := hl rfl; omega)
        · rintro e w' ⟨rfl, v', h1, h2⟩
          exact ⟨rfl, v', h1, hf0.trans h2⟩
    · rw [if_pos h0]
      refine (put_skip g vb e0 _ W hpW.blk h0).mono ?_
      rintro e w' ⟨rfl, rfl⟩
      exact ⟨rfl, vb, hpW.below hbW, hf0.trans (Fr.of_below hbW (by omega))⟩
  have HP := Lib.hid P
  clear P hl
  have hmf : ∀ (fn : Fn) (first cap : Array Value) (w : World), (Instr.makeFunc fn first cap).run Try.prog w = .ok (.func fn first cap) w := fun _ _ _ _ => rfl
  go_enter Try.func10, Try.ntmps10
  go_wp2_with fail
  refine HP.out.mono ?_
  rintro e w1 ⟨rfl, hq⟩
  have Hq := Lib.hid hq
  clear hq
  go_wp2_with fail
  go_end0
  exact ⟨rfl, Hq.out⟩
end Go.Proofs.Ythblcoccoffofaa.Pk
