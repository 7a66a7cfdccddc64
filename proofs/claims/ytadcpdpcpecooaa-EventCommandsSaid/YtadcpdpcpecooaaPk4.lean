/- The contracts of (*Packer).Num, Text, Done. -/
import Derived.Test.YtadcpdpcpecooaaPk2
import Derived.Test.YtadcpdpcpecooaaPk3
import Derived.Laws.BytesArg
namespace Go.Proofs.Ytadcpdpcpecooaa.Pk
open Go.RowKit

theorem enters51 (caps : Array Value) (W : World) : (callFunc 51 caps).run Try.prog W = .ok (.enter 51 caps) W := by simp [go_sem]
/-- What Num makes of the bytes and the error. -/
def numStep (l : List Int) (e V n : Int) : List Int × Int :=
  if e ≠ 0 then (l, e)
  else if szB n = true ∧ V < 256 ^ n.toNat then (l ++ bytesOf V n.toNat, if 60000 < (l ++ bytesOf V n.toNat).length then 2 else 0)
  else (l, 11)

set_option maxRecDepth 20000 in
/-- The closure in Num. -/
theorem num1_ok (base g bp bv bs : Nat) (vb : Value) (l : List Int) (e0 V : Int) (n : Nat) (w : World) (hp : PkAt 55 5 w base g vb l e0) (hbase : base ≤ w.heap.size)
    (h1 : Blk w bp 52 #[.pointer (some ⟨g, 0, none⟩)]) (h2 : Blk w bv 57 #[.int .u64 V]) (h3 : Blk w bs 3 #[.int .i64 (n : Int)])
    (hn : n = 1 ∨ n = 2 ∨ n = 4 ∨ n = 8) (hV0 : 0 ≤ V) (hV : V < 256 ^ n) (hl : l.length ≤ 1000000000) :
    Calls Try.prog 51 #[.pointer (some ⟨bp, 0, none⟩), .pointer (some ⟨bv, 0, none⟩), .pointer (some ⟨bs, 0, none⟩)] w fun e w' => e = .returned (.tuple #[]) ∧
      ∃ vb', PkAt 55 5 w' base g vb' (l ++ bytesOf V n) e0 ∧ Fr w w' base g vb vb' := by
  have c1 := h1.cell 0
  have c2 := h2.cell 0
  have c3 := h3.cell 0
  have HN := Lib.hid (num_ok base g vb l e0 V n w hp hbase hn hV0 hV hl)
  go_enter Try.func51, Try.ntmps51
  go_wp2_with fail
  refine HN.out.mono ?_
  rintro e w1 ⟨rfl, hq⟩
  have Hq := Lib.hid hq
  clear hq
  go_wp2_with fail
  go_end0
  exact ⟨rfl, Hq.out⟩

set_option maxRecDepth 20000 in
theorem num1_bad (g bp bv bs : Nat) (V n : Int) (w : World)
    (h1 : Blk w bp 52 #[.pointer (some ⟨g, 0, none⟩)]) (h2 : Blk w bv 57 #[.int .u64 V]) (h3 : Blk w bs 3 #[.int .i64 n])
    (hV0 : 0 ≤ V) (hV64 : V < 18446744073709551616) (hn : szB n = false ∨ (n < 8 ∧ 256 ^ n.toNat ≤ V)) :
    Calls Try.prog 51 #[.pointer (some ⟨bp, 0, none⟩), .pointer (some ⟨bv, 0, none⟩), .pointer (some ⟨bs, 0, none⟩)] w fun e w' =>
      e = .panicked [{ v := .iface 28 (.int .i64 11), recovered := false }] ∧ w = w' := by
  have c1 := h1.cell 0
  have c2 := h2.cell 0
  have c3 := h3.cell 0
  have HN := Lib.hid (num_bad g V n w hV0 hV64 hn)
  clear hn hV64
  go_enter Try.func51, Try.ntmps51
  go_wp2_with fail
  refine HN.out.mono ?_
  rintro e w1 ⟨rfl, rfl⟩
  exact ⟨rfl, rfl, rfl⟩

theorem Blk.below {w w1 : World} {g : Nat} {t : TypeId} {cs : Array Value} (h : Blk w g t cs) (hb : Below w.heap.size w w1) : Blk w1 g t cs := h.same (hb.block g h.lt)

set_option maxRecDepth 20000 in
set_option maxHeartbeats 1000000 in
/-- THE CONTRACT of Num. -/
theorem Num_calls (base g : Nat) (vb : Value) (l : List Int) (e0 V n : Int) (w : World) (hp : PkAt 55 5 w base g vb l e0) (hbase : base ≤ w.heap.size)
    (hV0 : 0 ≤ V) (hV64 : V < 18446744073709551616) (hl : e0 = 0 → l.length ≤ 1000000) :
    Calls Try.prog 25 #[.pointer (some ⟨g, 0, none⟩), .int .u64 V, .int .i64 n] w fun e w' => e = .returned (.tuple #[]) ∧
      ∃ vb', PkAt 55 5 w' base g vb' (numStep l e0 V n).1 (numStep l e0 V n).2 ∧ Fr w w' base g vb vb' := by
  have hb3 : Below w.heap.size w (((w.alloc (.cells #[.pointer (some ⟨g, 0, none⟩)] 52)).alloc (.cells #[.int .u64 V] 57)).alloc (.cells #[.int .i64 n] 3)) :=
    (((Below.refl _ _).alloc (Nat.le_refl _) _).alloc (by simp) _).alloc (by simp; omega) _
  have P : Calls Try.prog 50 #[.pointer (some ⟨g, 0, none⟩), .func (.func 51) #[] #[.pointer (some ⟨w.heap.size, 0, none⟩), .pointer (some ⟨w.heap.size + 1, 0, none⟩), .pointer (some ⟨w.heap.size + 1 + 1, 0, none⟩)]]
      (((w.alloc (.cells #[.pointer (some ⟨g, 0, none⟩)] 52)).alloc (.cells #[.int .u64 V] 57)).alloc (.cells #[.int .i64 n] 3)) fun e w' => e = .returned (.tuple #[]) ∧
      ∃ vb', PkAt 55 5 w' base g vb' (numStep l e0 V n).1 (numStep l e0 V n).2 ∧ Fr w w' base g vb vb' := by
    have k1 : Blk (((w.alloc (.cells #[.pointer (some ⟨g, 0, none⟩)] 52)).alloc (.cells #[.int .u64 V] 57)).alloc (.cells #[.int .i64 n] 3)) w.heap.size 52 #[.pointer (some ⟨g, 0, none⟩)] :=
      ((Blk.new w _ _).below ((Below.refl _ _).alloc (Nat.le_refl _) _)).below ((Below.refl _ _).alloc (Nat.le_refl _) _)
    have k2 : Blk (((w.alloc (.cells #[.pointer (some ⟨g, 0, none⟩)] 52)).alloc (.cells #[.int .u64 V] 57)).alloc (.cells #[.int .i64 n] 3)) (w.heap.size + 1) 57 #[.int .u64 V] := by
      have := (Blk.new (w.alloc (.cells #[.pointer (some ⟨g, 0, none⟩)] 52)) 57 #[.int .u64 V]).below ((Below.refl _ _).alloc (Nat.le_refl _) (.cells #[.int .i64 n] 3))
      simpa using this
    have k3 : Blk (((w.alloc (.cells #[.pointer (some ⟨g, 0, none⟩)] 52)).alloc (.cells #[.int .u64 V] 57)).alloc (.cells #[.int .i64 n] 3)) (w.heap.size + 1 + 1) 3 #[.int .i64 n] := by
      have := Blk.new ((w.alloc (.cells #[.pointer (some ⟨g, 0, none⟩)] 52)).alloc (.cells #[.int .u64 V] 57)) 3 #[.int .i64 n]
      simpa using this
    have hsz : w.heap.size ≤ (((w.alloc (.cells #[.pointer (some ⟨g, 0, none⟩)] 52)).alloc (.cells #[.int .u64 V] 57)).alloc (.cells #[.int .i64 n] 3)).heap.size := hb3.size
    generalize (((w.alloc (.cells #[.pointer (some ⟨g, 0, none⟩)] 52)).alloc (.cells #[.int .u64 V] 57)).alloc (.cells #[.int .i64 n] 3)) = W at hb3 k1 k2 k3 hsz ⊢
    have hpW := hp.below hb3
    have hbW := boxed_below W g
    have hf0 : Fr w W base g vb vb := Fr.of_below hb3 hbase
    unfold numStep
    by_cases h0 : e0 = 0
    · subst h0
      rw [if_neg (by simp)]
      by_cases hs : szB n = true ∧ V < 256 ^ n.toNat
      · rw [if_pos hs]
        obtain ⟨m, rfl⟩ := Int.eq_ofNat_of_zero_le (show 0 ≤ n by have := (szB_iff n).1 hs.1; omega)
        have hm := (szB_iff (m : Int)).1 hs.1
        rw [Int.toNat_natCast] at hs ⊢
        refine (put_ret base g vb l (l ++ bytesOf V m) 51 _ W hpW (by omega) (enters51 _) ?_).mono ?_
        · exact num1_ok base g _ _ _ vb l 0 V m (boxed W g) (hpW.below hbW) (by have := hbW.size; omega) (k1.below hbW) (k2.below hbW) (k3.below hbW) (by omega) hV0 hs.2 (by have := hl rfl; omega)
        · rintro e w' ⟨rfl, v', h1, h2⟩
          exact ⟨rfl, v', h1, hf0.trans h2⟩
      · rw [if_neg hs]
        refine (put_pan base g vb l l 11 51 _ W hpW (by omega) (enters51 _) ?_).mono ?_
        · refine (num1_bad g _ _ _ V n (boxed W g) (k1.below hbW) (k2.below hbW) (k3.below hbW) hV0 hV64 ?_).mono ?_
          · by_cases h1 : szB n = true
            · right
              have h2 : ¬ V < 256 ^ n.toNat := fun h => hs ⟨h1, h⟩
              have h3 := (szB_iff n).1 h1
              refine ⟨?_, by omega⟩
              rcases h3 with h | h | h | h
              · omega
              · omega
              · omega
              · subst h; exact absurd hV64 (by simpa using h2)
            · left; simpa using h1
          · rintro e w' ⟨rfl, rfl⟩
            exact ⟨rfl, vb, hpW.below hbW, Fr.refl _ _ _ _⟩
        · rintro e w' ⟨rfl, v', h1, h2⟩
          exact ⟨rfl, v', h1, hf0.trans h2⟩
    · rw [if_pos h0]
      refine (put_skip g vb e0 _ W hpW.blk h0).mono ?_
      rintro e w' ⟨rfl, rfl⟩
      exact ⟨rfl, vb, hpW.below hbW, hf0.trans (Fr.of_below hbW (by omega))⟩
  have HP := Lib.hid P
  clear P hV64 hl
  have hmf : ∀ (fn : Fn) (first cap : Array Value) (w : World), (Instr.makeFunc fn first cap).run Try.prog w = .ok (.func fn first cap) w := fun _ _ _ _ => rfl
  go_enter Try.func25, Try.ntmps25
  go_wp2_with fail
  refine HP.out.mono ?_
  rintro e w1 ⟨rfl, hq⟩
  have Hq := Lib.hid hq
  clear hq
  go_wp2_with fail
  go_end0
  exact ⟨rfl, Hq.out⟩

/-- What Text makes of the bytes and the error. -/
def textStep (l : List Int) (e : Int) (s : ByteArray) : List Int × Int :=
  if e ≠ 0 then (l, e)
  else if 65535 < s.size then (l, 2)
  else (l ++ bytesOf s.size 2 ++ ints s, if 60000 < (l ++ bytesOf s.size 2 ++ ints s).length then 2 else 0)

end Go.Proofs.Ytadcpdpcpecooaa.Pk
