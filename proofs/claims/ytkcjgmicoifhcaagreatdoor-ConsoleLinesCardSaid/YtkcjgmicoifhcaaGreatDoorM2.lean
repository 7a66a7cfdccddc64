/- Texts joined: H1 Pk0 E0 E3 E15 E1 E2. -/
import Derived.Test.YtkcjgmicoifhcaaGreatDoorM1
import Derived.Test.YtkcjgmicoifhcaaGreatDoorProg
import Derived.WalkKit
import Derived.Deep.AppendLies
import Derived.Deep.Draws
import Derived.Lib.AppendStr
import Derived.KernelRfl
import Derived.Deep.WholeRow

/- H1: Cents, Ppm: the program's and the reference's; the walk of RealMoney. -/
namespace Go.Proofs.YtkcjgmicoifhcaaGreatDoor.Re
open Go.RowKit

theorem tk_zero (x : Nat) (S : Int) : (tk x S).2 ≠ 0 → (tk x S).1 = 0 := by
  unfold tk tkN
  intro h
  repeat' split
  all_goals first | rfl | (split at h; all_goals simp_all)
set_option maxRecDepth 20000 in
theorem cents_calls (x : Nat) (w : World) (hx : x < 18446744073709551616) :
    Calls Tryz.prog 105 #[.float .f64 x] w fun e' w' => e' = .returned (.tuple #[.int .i64 (tk x 100).1, .int .i64 (tk x 100).2]) ∧ w' = w := by
  have HT := Lib.hid (take_all x 100 w hx)
  go_enter Tryz.func105, Tryz.ntmps105
  go_wp2_with fail
  refine HT.out.mono ?_
  rintro e w1 ⟨rfl, rfl⟩
  go_wp2_with fail
  go_ret2
  exact ⟨rfl, rfl⟩
set_option maxRecDepth 20000 in
theorem rcents_calls (x : Nat) (w : World) (hx : x < 18446744073709551616) :
    Calls Tryz.prog 93 #[.float .f64 x] w fun e' w' => e' = .returned (.tuple #[.int .i64 (tk x 100).1, .int .i64 (tk x 100).2]) ∧ Below w.heap.size w w' := by
  have HT := Lib.hid (rtake_all x 100 w hx)
  go_enter Tryz.func93, Tryz.ntmps93
  go_wp2_with fail
  refine HT.out.mono ?_
  rintro e w1 ⟨rfl, b1⟩
  go_wp2_with fail
  go_ret2
  exact ⟨rfl, b1⟩
def pm (x : Nat) : Int × Int := if (tk x 10000).2 ≠ 0 then (0, (tk x 10000).2) else if 1000000 < (tk x 10000).1 then (0, 14) else ((tk x 10000).1, 0)
set_option maxRecDepth 20000 in
theorem ppm_calls (x : Nat) (w : World) (hx : x < 18446744073709551616) :
    Calls Tryz.prog 100 #[.float .f64 x] w fun e' w' => e' = .returned (.tuple #[.int .i64 (pm x).1, .int .i64 (pm x).2]) ∧ w' = w := by
  have HT := Lib.hid (take_all x 10000 w hx)
  unfold pm
  obtain ⟨a, ha⟩ : ∃ a, (tk x 10000).1 = a := ⟨_, rfl⟩
  obtain ⟨b, hb⟩ : ∃ a, (tk x 10000).2 = a := ⟨_, rfl⟩
  rw [ha, hb] at HT ⊢
  clear ha hb
  by_cases h1 : b = 0
  · subst h1
    rw [if_neg (by decide)]
    by_cases h2 : 1000000 < a
    · rw [if_pos h2]
      go_enter Tryz.func100, Tryz.ntmps100
      go_wp2_with fail
      refine HT.out.mono ?_
      rintro e w1 ⟨rfl, rfl⟩
      go_wp2_with fail
      go_ret2
      exact ⟨rfl, rfl⟩
    · rw [if_neg h2]
      go_enter Tryz.func100, Tryz.ntmps100
      go_wp2_with fail
      refine HT.out.mono ?_
      rintro e w1 ⟨rfl, rfl⟩
      go_wp2_with fail
      go_ret2
      exact ⟨rfl, rfl⟩
  · rw [if_pos h1]
    have hb : (b != 0) = true := by simpa using h1
    go_enter Tryz.func100, Tryz.ntmps100
    go_wp2_with fail
    refine HT.out.mono ?_
    rintro e w1 ⟨rfl, rfl⟩
    go_wp2_with fail
    go_ret2
    exact ⟨rfl, rfl⟩
set_option maxRecDepth 20000 in
theorem rppm_calls (x : Nat) (w : World) (hx : x < 18446744073709551616) :
    Calls Tryz.prog 91 #[.float .f64 x] w fun e' w' => e' = .returned (.tuple #[.int .i64 (pm x).1, .int .i64 (pm x).2]) ∧ Below w.heap.size w w' := by
  have HT := Lib.hid (rtake_all x 10000 w hx)
  have hz := tk_zero x 10000
  unfold pm
  obtain ⟨a, ha⟩ : ∃ a, (tk x 10000).1 = a := ⟨_, rfl⟩
  obtain ⟨b, hb⟩ : ∃ a, (tk x 10000).2 = a := ⟨_, rfl⟩
  rw [ha, hb] at HT hz ⊢
  clear ha hb
  by_cases h1 : b = 0
  · subst h1
    clear hz
    rw [if_neg (by decide)]
    by_cases h2 : 1000000 < a
    · rw [if_pos h2]
      go_enter Tryz.func91, Tryz.ntmps91
      go_wp2_with fail
      refine HT.out.mono ?_
      rintro e w1 ⟨rfl, b1⟩
      go_wp2_with fail
      go_ret2
      exact ⟨rfl, b1⟩
    · rw [if_neg h2]
      go_enter Tryz.func91, Tryz.ntmps91
      go_wp2_with fail
      refine HT.out.mono ?_
      rintro e w1 ⟨rfl, b1⟩
      go_wp2_with fail
      go_ret2
      exact ⟨rfl, b1⟩
  · rw [if_pos h1]
    obtain rfl := hz h1
    have hb : (b == 0) = false := by simpa using h1
    go_enter Tryz.func91, Tryz.ntmps91
    go_wp2_with fail
    refine HT.out.mono ?_
    rintro e w1 ⟨rfl, b1⟩
    go_wp2_with fail
    go_ret2
    exact ⟨rfl, b1⟩
end Go.Proofs.YtkcjgmicoifhcaaGreatDoor.Re

/- Pk0: What is told of a Packer in memory, and the frame that its calls keep. Plain facts on worlds; no walk. -/
namespace Go.Proofs.YtkcjgmicoifhcaaGreatDoor.Pk
open Go.RowKit

/-- Whole numbers as cells. -/
def nums (k : IntKind) (xs : List Int) : List Value := xs.map fun x => .int k x
theorem nums_length (k : IntKind) (xs : List Int) : (nums k xs).length = xs.length := by simp [nums]
theorem nums_append (k : IntKind) (xs ys : List Int) : nums k (xs ++ ys) = nums k xs ++ nums k ys := by simp [nums]

/-- A block that is known whole. -/
def Blk (w : World) (g : Nat) (t : TypeId) (cs : Array Value) : Prop := w.heap[g]? = some (.cells cs t (0, 0))
section
variable {w w' : World} {g : Nat} {t : TypeId} {cs : Array Value}
theorem Blk.lt (h : Blk w g t cs) : g < w.heap.size := by
  rcases Nat.lt_or_ge g w.heap.size with hlt | hge
  · exact hlt
  · unfold Blk at h; rw [Array.getElem?_eq_none hge] at h; cases h
theorem Blk.cell (h : Blk w g t cs) (i : Nat) : w.cell? ⟨g, i, none⟩ = cs[i]? := cell_of_row w g i cs t (0, 0) h
theorem Blk.frozen (h : Blk w g t cs) (i : Nat) : w.frozen? ⟨g, i, none⟩ = false := by
  unfold Blk at h
  simp [World.frozen?, h]
theorem Blk.new (w : World) (t : TypeId) (cs : Array Value) : Blk (w.alloc (.cells cs t)) w.heap.size t cs := heap_alloc_new w _
theorem Blk.set_ (h : Blk w g t cs) (i : Nat) (u : Value) : Blk (w.setCell ⟨g, i, none⟩ u) g t (cs.setIfInBounds i u) := by
  unfold Blk at h ⊢
  simp [World.setCell, Array.getElem?_modify, h]
theorem Blk.same (h : Blk w g t cs) (e : w'.heap[g]? = w.heap[g]?) : Blk w' g t cs := e.trans h
theorem Blk.ne_ {g' : Nat} {t' : TypeId} {cs' : Array Value} (h : Blk w g t cs) (h' : Blk w g' t' cs') (hne : t ≠ t') : g ≠ g' := by
  rintro rfl
  unfold Blk at h h'
  rw [h] at h'
  injection h' with h'
  injection h' with _ ht
  exact hne ht
theorem own_blk_ne {base : Nat} {e : TypeId} {size n : Nat} {v : Value} {xs : List Value} (h : w.ownsRow base e size v n xs) (hg : Blk w g t cs) (hne : e ≠ t) : v.ownBlock ≠ some g := by
  rcases h.2 with ⟨rfl, _⟩ | ⟨g', cap, cur, rfl, _, hh, _⟩
  · simp [Value.ownBlock]
  · intro he
    have : g' = g := by simpa [Value.ownBlock] using he
    subst this
    exact Blk.ne_ (t := e) hh hg hne rfl
end

/-- What is owned stays so where its own block is as it was. -/
theorem own_same {w w' : World} {base : Nat} {e : TypeId} {size n : Nat} {v : Value} {xs : List Value} (h : w.ownsRow base e size v n xs)
    (hs : ∀ k, v.ownBlock = some k → w'.heap[k]? = w.heap[k]?) : w'.ownsRow base e size v n xs := by
  refine ⟨h.1, ?_⟩
  rcases h.2 with hn | ⟨g, cap, cur, rfl, hb, hgg, rest⟩
  · exact .inl hn
  · exact .inr ⟨g, cap, cur, rfl, hb, (hs g rfl).trans hgg, rest⟩

/-- A Packer at block g: its bytes are l (in the row vb), its error e. T: the struct's type, E: the byte's. -/
structure PkAt (T E : TypeId) (w : World) (base g : Nat) (vb : Value) (l : List Int) (e : Int) : Prop where
  blk : Blk w g T #[vb, .int .i64 e]
  ge : base ≤ g
  row : w.ownsRow base E 1 vb l.length (nums .u8 l)

/-- What turns in a call on the Packer at g whose row is vb before and vb' behind. -/
structure Fr (w w' : World) (base g : Nat) (vb vb' : Value) : Prop where
  below : Below base w w'
  same : ∀ k, k < w.heap.size → k ≠ g → vb.ownBlock ≠ some k → w'.heap[k]? = w.heap[k]?
  own : vb'.ownBlock = vb.ownBlock ∨ ∃ k, vb'.ownBlock = some k ∧ w.heap.size ≤ k

theorem Fr.refl (w : World) (base g : Nat) (vb : Value) : Fr w w base g vb vb := ⟨Below.refl _ _, fun _ _ _ _ => rfl, .inl rfl⟩
theorem Fr.trans {w w1 w2 : World} {base g : Nat} {v v1 v2 : Value} (h : Fr w w1 base g v v1) (k : Fr w1 w2 base g v1 v2) : Fr w w2 base g v v2 := by
  refine ⟨h.below.trans k.below, fun i hi hg hv => (k.same i (Nat.lt_of_lt_of_le hi h.below.size) hg ?_).trans (h.same i hi hg hv), ?_⟩
  · rcases h.own with e | ⟨j, e, hj⟩
    · rw [e]; exact hv
    · rw [e]; intro hh; injection hh with hh; omega
  · rcases k.own with e | ⟨j, e, hj⟩
    · rw [e]; exact h.own
    · exact .inr ⟨j, e, Nat.le_trans h.below.size hj⟩
/-- Whatever only makes memory, ahead of it or behind it. -/
theorem Fr.of_below {w w1 : World} {base g : Nat} {v : Value} (h : Below w.heap.size w w1) (hb : base ≤ w.heap.size) : Fr w w1 base g v v :=
  ⟨h.mono hb, fun k hk _ _ => h.block k hk, .inl rfl⟩
theorem PkAt.below {T E : TypeId} {w w1 : World} {base g : Nat} {v : Value} {l : List Int} {e : Int} (h : PkAt T E w base g v l e) (hb : Below w.heap.size w w1) : PkAt T E w1 base g v l e :=
  ⟨h.blk.same (hb.block g h.blk.lt), h.ge, own_same h.row fun _ hk => hb.block _ (h.row.lt _ hk).2⟩
/-- What is kept of another Packer, and of any other block. -/
theorem PkAt.other {T E : TypeId} {w w1 : World} {base g g2 : Nat} {v v1 v2 : Value} {l : List Int} {e : Int} (h : PkAt T E w base g2 v2 l e) (f : Fr w w1 base g v v1)
    (hg : g2 ≠ g) (hv : v.ownBlock ≠ some g2) (hr : v2.ownBlock ≠ some g) (hvv : ∀ k, v2.ownBlock = some k → v.ownBlock ≠ some k) : PkAt T E w1 base g2 v2 l e :=
  ⟨h.blk.same (f.same g2 h.blk.lt hg hv), h.ge, own_same h.row fun k hk => f.same k (h.row.lt k hk).2 (fun e => hr (e ▸ hk)) (hvv k hk)⟩
theorem PkAt.apart {T E : TypeId} {w : World} {base g : Nat} {v : Value} {l : List Int} {e : Int} (h : PkAt T E w base g v l e) (hne : E ≠ T) : v.ownBlock ≠ some g := own_blk_ne h.row h.blk hne

/-- One store into the Packer's own block. -/
theorem PkAt.fr_set {w : World} {base g : Nat} (i : Nat) (u v : Value) (hg : base ≤ g) : Fr w (w.setCell ⟨g, i, none⟩ u) base g v v :=
  ⟨(Below.refl _ _).setCell hg u, fun _k _ hk _ => Below.heap_setCell _ _ _ _ hk, .inl rfl⟩

/-- Behind an append onto the row (a world between, which differs from the Packer's by new blocks alone): the Packer's own block. -/
theorem PkAt.grown_blk {T E : TypeId} {w wm w1 : World} {base g : Nat} {v : Value} {l : List Int} {e : Int} (h : PkAt T E w base g v l e) (hne : E ≠ T) (hb : Below w.heap.size w wm)
    (hg : wm.grownBy w1 v.ownBlock) : Blk w1 g T #[v, .int .i64 e] :=
  (h.blk.same (hb.block g h.blk.lt)).same (hg.block g (Nat.lt_of_lt_of_le h.blk.lt hb.size) fun hh => h.apart hne hh.symm)
/-- .. and the Packer, its new row stored. -/
theorem PkAt.grown {T E : TypeId} {w wm w1 : World} {base g : Nat} {v v' : Value} {l xs : List Int} {e : Int} (h : PkAt T E w base g v l e) (hne : E ≠ T) (hb : Below w.heap.size w wm) (hbase : base ≤ w.heap.size)
    (hg : wm.grownBy w1 v.ownBlock) (ho : w1.ownsRow base E 1 v' (l ++ xs).length (nums .u8 (l ++ xs))) (hat : v'.ownBlock = v.ownBlock ∨ ∃ k, v'.ownBlock = some k ∧ w.heap.size ≤ k) :
    PkAt T E (w1.setCell ⟨g, 0, none⟩ v') base g v' (l ++ xs) e ∧ Fr w (w1.setCell ⟨g, 0, none⟩ v') base g v v' := by
  have hk := h.grown_blk hne hb hg
  have hlt := h.blk.lt
  have hvb := h.apart hne
  have hv' : v'.ownBlock ≠ some g := by
    rcases hat with e1 | ⟨k, e1, hk1⟩
    · rw [e1]; exact hvb
    · rw [e1]; intro hh; injection hh with hh; omega
  refine ⟨⟨?_, h.ge, own_same ho fun k hk1 => Below.heap_setCell _ _ _ _ ?_⟩, ⟨?_, ?_, hat⟩⟩
  · have := hk.set_ 0 v'
    simpa using this
  · rintro rfl; exact hv' hk1
  · refine Below.setCell (Below.grown (hb.mono hbase) hg (Nat.le_trans hbase hb.size) fun k hk1 => (h.row.lt k hk1).1) h.ge _
  · intro k hk1 hkg hkv
    rw [Below.heap_setCell _ _ _ _ hkg, hg.block k (Nat.lt_of_lt_of_le hk1 hb.size) fun hh => hkv hh.symm, hb.block k hk1]

/-- The error stored. -/
theorem PkAt.setErr {T E : TypeId} {w : World} {base g : Nat} {v : Value} {l : List Int} {e : Int} (h : PkAt T E w base g v l e) (hne : E ≠ T) (e' : Int) :
    PkAt T E (w.setCell ⟨g, 1, none⟩ (.int .i64 e')) base g v l e' ∧ Fr w (w.setCell ⟨g, 1, none⟩ (.int .i64 e')) base g v v := by
  have hv := h.apart hne
  refine ⟨⟨?_, h.ge, own_same h.row fun k hk => Below.heap_setCell _ _ _ _ ?_⟩, PkAt.fr_set 1 _ v h.ge⟩
  · have := h.blk.set_ 1 (.int .i64 e')
    simpa using this
  · rintro rfl; exact hv hk
theorem PkAt.shape {T E : TypeId} {w : World} {base g : Nat} {v : Value} {l : List Int} {e : Int} (h : PkAt T E w base g v l e) : ∃ A c, v = .slice A l.length c := by
  rcases h.row.2 with ⟨h1, h2⟩ | ⟨gg, cap, cur, h1, _⟩
  · exact ⟨none, 0, by rw [h1, h2]⟩
  · exact ⟨_, cap, h1⟩

/-- The bytes of a number, the lowest first. -/
def byteAt (V : Int) (k : Nat) : Int := V / 256 ^ k % 256
def bytesOf (V : Int) (n : Nat) : List Int := (List.range n).map (byteAt V)
theorem bytesOf_length (V : Int) (n : Nat) : (bytesOf V n).length = n := by simp [bytesOf]
theorem bytesOf_succ (V : Int) (n : Nat) : bytesOf V (n + 1) = bytesOf V n ++ [byteAt V n] := by simp [bytesOf, List.range_succ]
theorem byteAt_wrap (V : Int) (k : Nat) : IntKind.u8.wrap (V / 2 ^ (8 * k)) = byteAt V k := by
  have e : (2 : Int) ^ (8 * k) = 256 ^ k := by rw [show (256 : Int) = 2 ^ 8 from rfl, ← Int.pow_mul]
  rw [e]; simp [IntKind.wrap, byteAt, IntKind.signed, IntKind.bits]
/-- A string's bytes as whole numbers. -/
def ints (s : ByteArray) : List Int := s.data.toList.map fun b => (b.toNat : Int)
theorem ints_length (s : ByteArray) : (ints s).length = s.size := by simp [ints]
theorem strCells_ints (s : ByteArray) : Lib.strCells s = nums .u8 (ints s) := by simp [Lib.strCells, nums, ints]
theorem ret_bool {a b : Bool} (h : a = b) : Ending.returned (.bool a) = .returned (.bool b) := by rw [h]
theorem Blk.below {w w1 : World} {g : Nat} {t : TypeId} {cs : Array Value} (h : Blk w g t cs) (hb : Below w.heap.size w w1) : Blk w1 g t cs := (hb.block g h.lt).trans h
end Go.Proofs.YtkcjgmicoifhcaaGreatDoor.Pk

/- E0: Events as values; small functions of event and of its reference. -/
namespace Go.Proofs.YtkcjgmicoifhcaaGreatDoor.Ev
open Go.RowKit Go.Proofs.YtkcjgmicoifhcaaGreatDoor.Pk Go.Proofs.YtkcjgmicoifhcaaGreatDoor.Re

/-- An event. -/
structure E where
  kind : Int
  day : Int
  key : Int
  loan : Int
  amount : Int
  rate : Nat
  income : Nat
  sub : Bool
  status : Int
  plan : Int
  family : Int
  deriving DecidableEq
abbrev E.cells (e : E) : Array Value := #[.int .i64 e.kind, .int .i64 e.day, .int .u32 e.key, .int .i64 e.loan, .int .i64 e.amount, .float .f64 e.rate, .float .f64 e.income, .bool e.sub, .int .i64 e.status, .int .i64 e.plan, .int .i64 e.family]
abbrev E.v (e : E) : Value := .agg #[.int .i64 e.kind, .int .i64 e.day, .int .u32 e.key, .int .i64 e.loan, .int .i64 e.amount, .float .f64 e.rate, .float .f64 e.income, .bool e.sub, .int .i64 e.status, .int .i64 e.plan, .int .i64 e.family]
/-- An event in memory. -/
structure Bx (w : World) (g : Nat) (e : E) : Prop where
  c0 : w.cell? ⟨g, 0, none⟩ = some (.int .i64 e.kind)
  c1 : w.cell? ⟨g, 1, none⟩ = some (.int .i64 e.day)
  c2 : w.cell? ⟨g, 2, none⟩ = some (.int .u32 e.key)
  c3 : w.cell? ⟨g, 3, none⟩ = some (.int .i64 e.loan)
  c4 : w.cell? ⟨g, 4, none⟩ = some (.int .i64 e.amount)
  c5 : w.cell? ⟨g, 5, none⟩ = some (.float .f64 e.rate)
  c6 : w.cell? ⟨g, 6, none⟩ = some (.float .f64 e.income)
  c7 : w.cell? ⟨g, 7, none⟩ = some (.bool e.sub)
  c8 : w.cell? ⟨g, 8, none⟩ = some (.int .i64 e.status)
  c9 : w.cell? ⟨g, 9, none⟩ = some (.int .i64 e.plan)
  c10 : w.cell? ⟨g, 10, none⟩ = some (.int .i64 e.family)
theorem bx_of {w : World} {g : Nat} {e : E} (h : Blk w g 25 e.cells) : Bx w g e :=
  ⟨h.cell 0, h.cell 1, h.cell 2, h.cell 3, h.cell 4, h.cell 5, h.cell 6, h.cell 7, h.cell 8, h.cell 9, h.cell 10⟩

set_option maxRecDepth 20000 in
theorem zero_calls (x : Nat) (w : World) : Calls Tryz.prog 99 #[.float .f64 x] w fun e w' => e = .returned (.bool ((x : Int) == 0)) ∧ w' = w := by
  have h1 := bits_run
  go_enter Tryz.func99, Tryz.ntmps99
  go_wp2_with fail
  go_ret
  exact ⟨rfl, rfl⟩
def flagI (b : Bool) : Int := if b then 1 else 0
def dayB (n : Int) : Bool := decide (0 ≤ n) && decide (n ≤ 87658)
set_option maxRecDepth 20000 in
theorem day_calls (n : Int) (w : World) : Calls Tryz.prog 64 #[.int .i64 n] w fun e w' => e = .returned (.bool (dayB n)) ∧ w' = w := by
  unfold dayB
  by_cases h : 0 ≤ n
  · have e1 : decide (0 ≤ n) = true := by simpa using h
    rw [e1]
    go_enter Tryz.func64, Tryz.ntmps64
    go_wp2_with fail
    go_ret
    exact ⟨by simp, rfl⟩
  · have e1 : decide (0 ≤ n) = false := by simpa using h
    rw [e1]
    go_enter Tryz.func64, Tryz.ntmps64
    go_wp2_with fail
    go_ret
    exact ⟨rfl, rfl⟩
set_option maxRecDepth 20000 in
theorem rday_calls (n : Int) (w : World) : Calls Tryz.prog 88 #[.int .i64 n] w fun e w' => e = .returned (.bool (dayB n)) ∧ w' = w := by
  unfold dayB
  by_cases h : 0 ≤ n
  · have e1 : decide (0 ≤ n) = true := by simpa using h
    rw [e1]
    go_enter Tryz.func88, Tryz.ntmps88
    go_wp2_with fail
    go_ret
    exact ⟨by simp, rfl⟩
  · have e1 : decide (0 ≤ n) = false := by simpa using h
    rw [e1]
    go_enter Tryz.func88, Tryz.ntmps88
    go_wp2_with fail
    go_ret
    exact ⟨rfl, rfl⟩
/-- A field that a kind has lies from 1 to a bound; one that it has not is 0. -/
def fieldB (n hi : Int) (has : Bool) : Bool := if has then decide (1 ≤ n) && decide (n ≤ hi) else n == 0
set_option maxRecDepth 20000 in
theorem g1_calls (e : E) (has : Bool) (w : World) : Calls Tryz.prog 96 #[e.v, .bool has] w fun r w' => r = .returned (.bool (fieldB e.loan 1000 has)) ∧ Below w.heap.size w w' := by
  have hb := Blk.new w 25 e.cells
  obtain ⟨k0, k1, k2, k3, k4, k5, k6, k7, k8, k9, k10⟩ := bx_of hb
  have HB := Lib.hid ((Below.refl w.heap.size w).alloc (Nat.le_refl _) (.cells e.cells 25))
  clear hb
  unfold fieldB
  cases has
  · go_enter Tryz.func96, Tryz.ntmps96
    go_wp2
    all_goals go_ret
    all_goals exact ⟨rfl, HB.out⟩
  · go_enter Tryz.func96, Tryz.ntmps96
    go_wp2
    all_goals go_ret
    all_goals exact ⟨ret_bool (by first | (simp_all; done) | (simp_all; omega)), HB.out⟩
set_option maxRecDepth 20000 in
theorem g2_calls (e : E) (has : Bool) (w : World) : Calls Tryz.prog 97 #[e.v, .bool has] w fun r w' => r = .returned (.bool (fieldB e.amount 1000000000 has)) ∧ Below w.heap.size w w' := by
  have hb := Blk.new w 25 e.cells
  obtain ⟨k0, k1, k2, k3, k4, k5, k6, k7, k8, k9, k10⟩ := bx_of hb
  have HB := Lib.hid ((Below.refl w.heap.size w).alloc (Nat.le_refl _) (.cells e.cells 25))
  clear hb
  unfold fieldB
  cases has
  · go_enter Tryz.func97, Tryz.ntmps97
    go_wp2
    all_goals go_ret
    all_goals exact ⟨rfl, HB.out⟩
  · go_enter Tryz.func97, Tryz.ntmps97
    go_wp2
    all_goals go_ret
    all_goals exact ⟨ret_bool (by first | (simp_all; done) | (simp_all; omega)), HB.out⟩
set_option maxRecDepth 20000 in
theorem g5_calls (e : E) (has : Bool) (w : World) : Calls Tryz.prog 103 #[e.v, .bool has] w fun r w' => r = .returned (.bool (fieldB e.status 5 has)) ∧ Below w.heap.size w w' := by
  have hb := Blk.new w 25 e.cells
  obtain ⟨k0, k1, k2, k3, k4, k5, k6, k7, k8, k9, k10⟩ := bx_of hb
  have HB := Lib.hid ((Below.refl w.heap.size w).alloc (Nat.le_refl _) (.cells e.cells 25))
  clear hb
  unfold fieldB
  cases has
  · go_enter Tryz.func103, Tryz.ntmps103
    go_wp2
    all_goals go_ret
    all_goals exact ⟨rfl, HB.out⟩
  · go_enter Tryz.func103, Tryz.ntmps103
    go_wp2
    all_goals go_ret
    all_goals exact ⟨ret_bool (by first | (simp_all; done) | (simp_all; omega)), HB.out⟩
set_option maxRecDepth 20000 in
theorem g4_calls (e : E) (has : Bool) (w : World) : Calls Tryz.prog 102 #[e.v, .bool has] w fun r w' => r = .returned (.bool (has || !e.sub)) ∧ Below w.heap.size w w' := by
  have hb := Blk.new w 25 e.cells
  obtain ⟨k0, k1, k2, k3, k4, k5, k6, k7, k8, k9, k10⟩ := bx_of hb
  have HB := Lib.hid ((Below.refl w.heap.size w).alloc (Nat.le_refl _) (.cells e.cells 25))
  clear hb
  cases has
  · go_enter Tryz.func102, Tryz.ntmps102
    go_wp2
    all_goals go_ret
    all_goals exact ⟨rfl, HB.out⟩
  · go_enter Tryz.func102, Tryz.ntmps102
    go_wp2
    all_goals go_ret
    all_goals exact ⟨rfl, HB.out⟩
/-- Is a number taken, and not -0? -/
def takeB (err : Int) (x : Nat) : Bool := err == 0 && (!isZ x || (x : Int) == 0)
set_option maxRecDepth 20000 in
theorem takes1_calls (x : Nat) (w : World) (hx : x < 18446744073709551616) : Calls Tryz.prog 101 #[.float .f64 x, .func (.func 100) #[] #[]] w fun e w' => e = .returned (.bool (takeB (pm x).2 x)) ∧ w' = w := by
  have HP := Lib.hid (ppm_calls x w hx)
  have h1 := bits_run
  unfold takeB
  generalize pm x = t at *
  obtain ⟨b, hb⟩ : ∃ b, isZ x = b := ⟨_, rfl⟩
  rw [hb]
  unfold isZ at hb
  obtain ⟨c, hc⟩ : ∃ c, (t.2 == 0) = c := ⟨_, rfl⟩
  rw [hc]
  go_enter Tryz.func101, Tryz.ntmps101
  go_wp2_with fail
  refine HP.out.mono ?_
  rintro e w1 ⟨rfl, rfl⟩
  have hb2 : (FloatKind.f64.format.order x 0 != some Ordering.eq) = !b := by rw [bne, hb]
  clear hb
  cases c <;> cases b
  all_goals
    simp only [Bool.not_true, Bool.not_false] at hb2
    go_wp2_with fail
    go_ret
    exact ⟨ret_bool (by simp), rfl⟩
set_option maxRecDepth 20000 in
theorem takes2_calls (x : Nat) (w : World) (hx : x < 18446744073709551616) : Calls Tryz.prog 106 #[.float .f64 x, .func (.func 105) #[] #[]] w fun e w' => e = .returned (.bool (takeB (tk x 100).2 x)) ∧ w' = w := by
  have HP := Lib.hid (cents_calls x w hx)
  have h1 := bits_run
  unfold takeB
  generalize tk x 100 = t at *
  obtain ⟨b, hb⟩ : ∃ b, isZ x = b := ⟨_, rfl⟩
  rw [hb]
  unfold isZ at hb
  obtain ⟨c, hc⟩ : ∃ c, (t.2 == 0) = c := ⟨_, rfl⟩
  rw [hc]
  go_enter Tryz.func106, Tryz.ntmps106
  go_wp2_with fail
  refine HP.out.mono ?_
  rintro e w1 ⟨rfl, rfl⟩
  have hb2 : (FloatKind.f64.format.order x 0 != some Ordering.eq) = !b := by rw [bne, hb]
  clear hb
  cases c <;> cases b
  all_goals
    simp only [Bool.not_true, Bool.not_false] at hb2
    go_wp2_with fail
    go_ret
    exact ⟨ret_bool (by simp), rfl⟩
def rateB (x : Nat) (has : Bool) : Bool := if has then takeB (pm x).2 x && decide ((pm x).1 ≤ 250000) else (x : Int) == 0
set_option maxRecDepth 20000 in
theorem g3_calls (e : E) (has : Bool) (w : World) (hx : e.rate < 18446744073709551616) : Calls Tryz.prog 98 #[e.v, .bool has] w fun r w' => r = .returned (.bool (rateB e.rate has)) ∧ Below w.heap.size w w' := by
  have hb := Blk.new w 25 e.cells
  obtain ⟨k0, k1, k2, k3, k4, k5, k6, k7, k8, k9, k10⟩ := bx_of hb
  have HB := Lib.hid ((Below.refl w.heap.size w).alloc (Nat.le_refl _) (.cells e.cells 25))
  clear hb
  unfold rateB
  cases has
  · go_enter Tryz.func98, Tryz.ntmps98
    go_wp2_with fail
    refine (zero_calls _ _).mono ?_
    rintro r w1 ⟨rfl, rfl⟩
    go_wp2_with fail
    go_ret
    exact ⟨rfl, HB.out⟩
  · have HP := Lib.hid (fun W => ppm_calls e.rate W hx)
    have HT := Lib.hid (fun W => takes1_calls e.rate W hx)
    have ht : takeB (pm e.rate).2 e.rate = true → ((pm e.rate).2 == 0) = true := by unfold takeB; intro h; simp at h; simp [h.1]
    generalize pm e.rate = t at *
    generalize takeB t.2 e.rate = c at *
    go_enter Tryz.func98, Tryz.ntmps98
    go_wp2_with fail
    refine (HP.out _).mono ?_
    rintro r w1 ⟨rfl, rfl⟩
    go_wp2_with fail
    refine (HT.out _).mono ?_
    rintro r w1 ⟨rfl, rfl⟩
    cases c
    · go_wp2_with fail
      go_ret
      exact ⟨rfl, HB.out⟩
    · have h2 := ht rfl
      go_wp2_with fail
      go_ret
      exact ⟨ret_bool (by simp), HB.out⟩
def planB (p f : Int) (x : Nat) (has : Bool) : Bool :=
  if has then
    (if p == 4 then takeB (tk x 100).2 x && (decide ((tk x 100).1 ≤ 1000000000) && (decide (1 ≤ f) && decide (f ≤ 30)))
     else (p == 1 || p == 2 || p == 3) && ((x : Int) == 0 && f == 0))
  else p == 0 && ((x : Int) == 0 && f == 0)
set_option maxRecDepth 20000 in
set_option maxHeartbeats 2000000 in
theorem g6_calls (e : E) (has : Bool) (w : World) (hx : e.income < 18446744073709551616) : Calls Tryz.prog 104 #[e.v, .bool has] w fun r w' => r = .returned (.bool (planB e.plan e.family e.income has)) ∧ Below w.heap.size w w' := by
  have hb := Blk.new w 25 e.cells
  obtain ⟨k0, k1, k2, k3, k4, k5, k6, k7, k8, k9, k10⟩ := bx_of hb
  have HB := Lib.hid ((Below.refl w.heap.size w).alloc (Nat.le_refl _) (.cells e.cells 25))
  clear hb k0 k1 k2 k3 k4 k5 k7 k8
  have HZ := Lib.hid (fun W => zero_calls e.income W)
  unfold planB
  obtain ⟨z, hz⟩ : ∃ c, ((e.income : Int) == 0) = c := ⟨_, rfl⟩
  rw [hz] at HZ ⊢
  clear hz
  cases has
  · go_enter Tryz.func104, Tryz.ntmps104
    go_upto_region 2 with fail
    generalize w.alloc (.cells e.cells 25) = W1 at *
    go_wp2_with (go_at_call 99; refine (HZ.out _).mono ?_; rintro r w1 ⟨rfl, rfl⟩)
    all_goals go_ret
    all_goals exact ⟨ret_bool (by simp_all), HB.out⟩
  · have HP := Lib.hid (fun W => cents_calls e.income W hx)
    have HT := Lib.hid (fun W => takes2_calls e.income W hx)
    have ht : takeB (tk e.income 100).2 e.income = true → ((tk e.income 100).2 == 0) = true := by unfold takeB; intro h; simp at h; simp [h.1]
    generalize tk e.income 100 = t at *
    generalize takeB t.2 e.income = c at *
    go_enter Tryz.func104, Tryz.ntmps104
    go_upto_region 3 with fail
    generalize w.alloc (.cells e.cells 25) = W1 at *
    go_wp2_with fail
    refine (HP.out _).mono ?_
    rintro r w1 ⟨rfl, rfl⟩
    go_wp2_with fail
    refine (HT.out _).mono ?_
    rintro r w1 ⟨rfl, rfl⟩
    cases c
    · clear ht
      go_wp2_with (go_at_call 99; refine (HZ.out _).mono ?_; rintro r w1 ⟨rfl, rfl⟩)
      all_goals go_ret
      all_goals exact ⟨ret_bool (by first | (simp_all; done) | (simp_all; omega)), HB.out⟩
    · have h2 := ht rfl
      clear ht
      go_wp2_with (go_at_call 99; refine (HZ.out _).mono ?_; rintro r w1 ⟨rfl, rfl⟩)
      all_goals go_ret
      all_goals exact ⟨ret_bool (by first | (simp_all; done) | (simp_all; omega)), HB.out⟩
end Go.Proofs.YtkcjgmicoifhcaaGreatDoor.Ev

/- E3: annuitykeep.Event, event.Same: are two events alike? -/
namespace Go.Proofs.YtkcjgmicoifhcaaGreatDoor.Ev
open Go.RowKit Go.Proofs.YtkcjgmicoifhcaaGreatDoor.Pk Go.Proofs.YtkcjgmicoifhcaaGreatDoor.Re

theorem two_boxes (a b : E) (w : World) : Bx ((w.alloc (.cells a.cells 25)).alloc (.cells b.cells 25)) w.heap.size a ∧ Bx ((w.alloc (.cells a.cells 25)).alloc (.cells b.cells 25)) (w.heap.size + 1) b ∧ Below w.heap.size w ((w.alloc (.cells a.cells 25)).alloc (.cells b.cells 25)) := by
  have h1 := Blk.new w 25 a.cells
  have h2 := Blk.new (w.alloc (.cells a.cells 25)) 25 b.cells
  have hs : (w.alloc (.cells a.cells 25)).heap.size = w.heap.size + 1 := by simp
  rw [hs] at h2
  refine ⟨bx_of (h1.below ((Below.refl _ _).alloc (Nat.le_refl _) _)), bx_of h2, ?_⟩
  have hb := (Below.refl w.heap.size w).alloc (Nat.le_refl _) (.cells a.cells 25)
  exact hb.alloc hb.size _
theorem two_below (X Y : Obj) (w : World) : Below w.heap.size w ((w.alloc X).alloc Y) := by
  have hb := (Below.refl w.heap.size w).alloc (Nat.le_refl _) X
  exact hb.alloc hb.size _
set_option maxRecDepth 20000 in
set_option maxHeartbeats 4000000 in
theorem kev_calls (a b : E) (w : World) : Calls Tryz.prog 25 #[a.v, b.v] w fun r w' => r = .returned (.bool (decide (a = b))) ∧ Below w.heap.size w w' := by
  obtain ⟨B1, B2, HB⟩ := two_boxes a b w
  have HB := Lib.hid HB
  obtain ⟨k0, k1, k2, k3, k4, k5, k6, k7, k8, k9, k10⟩ := B1
  obtain ⟨j0, j1, j2, j3, j4, j5, j6, j7, j8, j9, j10⟩ := B2
  have HF := Lib.hid (fun x y W => float_calls x y W)
  go_enter Tryz.func25, Tryz.ntmps25
  go_wp2_with (go_at_call 51; refine (HF.out _ _ _).mono ?_; rintro r w1 ⟨rfl, rfl⟩)
  all_goals clear k0 k1 k2 k3 k4 k5 k6 k7 k8 k9 k10 j0 j1 j2 j3 j4 j5 j6 j7 j8 j9 j10 HB HF
  all_goals go_ret
  all_goals refine ⟨ret_bool ?_, two_below _ _ _⟩
  all_goals (cases a; cases b)
  all_goals simp only [Int.natCast_inj] at *
  all_goals first | (simp_all; done) | (rw [Bool.eq_iff_iff]; simp_all; done)
end Go.Proofs.YtkcjgmicoifhcaaGreatDoor.Ev

/- E15: event.Same: are two events alike? -/
namespace Go.Proofs.YtkcjgmicoifhcaaGreatDoor.Ev
open Go.RowKit Go.Proofs.YtkcjgmicoifhcaaGreatDoor.Pk Go.Proofs.YtkcjgmicoifhcaaGreatDoor.Re

theorem pw_below_drewN2 {B : Nat} {w W : World} (h : Below B w W) : ∀ n, Below B w (W.drewN n)
  | 0 => h
  | n + 1 => by
    have := (pw_below_drewN2 h n).drew
    exact this
theorem same_iff (a b : E) : ((a.kind == b.kind) && ((a.day == b.day) && ((a.key == b.key) && ((a.loan == b.loan) && ((a.amount == b.amount) && (((a.rate : Int) == (b.rate : Int)) && (((a.income : Int) == (b.income : Int)) && ((a.sub == b.sub) && ((a.status == b.status) && ((a.plan == b.plan) && (a.family == b.family))))))))))) = decide (a = b) := by
  rw [Bool.eq_iff_iff]
  cases a
  cases b
  simp [Int.natCast_inj]
theorem bx_drewN {w : World} {g : Nat} {e : E} (h : Bx w g e) : ∀ n, Bx (w.drewN n) g e
  | 0 => h
  | n + 1 => by
    have := bx_drewN h n
    exact ⟨this.c0, this.c1, this.c2, this.c3, this.c4, this.c5, this.c6, this.c7, this.c8, this.c9, this.c10⟩
set_option maxRecDepth 20000 in
set_option maxHeartbeats 8000000 in
theorem same_calls (a b : E) (w : World) : Calls Tryz.prog 35 #[a.v, b.v] w fun r w' => r = .returned (.bool (decide (a = b))) ∧ Below w.heap.size w w' := by
  rw [← same_iff]
  obtain ⟨B1, B2, HB⟩ := two_boxes a b w
  have HB := Lib.hid HB
  have h1 := bits_run
  obtain ⟨k0, k1, k2, k3, k4, k5, k6, k7, k8, k9, k10⟩ := B1
  obtain ⟨j0, j1, j2, j3, j4, j5, j6, j7, j8, j9, j10⟩ := B2
  obtain ⟨x0, e0⟩ : ∃ x, (a.kind == b.kind) = x := ⟨_, rfl⟩
  obtain ⟨x1, e1⟩ : ∃ x, (a.day == b.day) = x := ⟨_, rfl⟩
  obtain ⟨x2, e2⟩ : ∃ x, (a.key == b.key) = x := ⟨_, rfl⟩
  obtain ⟨x3, e3⟩ : ∃ x, (a.loan == b.loan) = x := ⟨_, rfl⟩
  obtain ⟨x4, e4⟩ : ∃ x, (a.amount == b.amount) = x := ⟨_, rfl⟩
  obtain ⟨x5, e5⟩ : ∃ x, ((a.rate : Int) == (b.rate : Int)) = x := ⟨_, rfl⟩
  obtain ⟨x6, e6⟩ : ∃ x, ((a.income : Int) == (b.income : Int)) = x := ⟨_, rfl⟩
  obtain ⟨x7, e7⟩ : ∃ x, (a.sub == b.sub) = x := ⟨_, rfl⟩
  obtain ⟨x8, e8⟩ : ∃ x, (a.status == b.status) = x := ⟨_, rfl⟩
  obtain ⟨x9, e9⟩ : ∃ x, (a.plan == b.plan) = x := ⟨_, rfl⟩
  obtain ⟨x10, e10⟩ : ∃ x, (a.family == b.family) = x := ⟨_, rfl⟩
  rw [e0, e1, e2, e3, e4, e5, e6, e7, e8, e9, e10]
  go_enter Tryz.func35, Tryz.ntmps35
  go_upto_region 1 with fail
  generalize (w.alloc (.cells a.cells 25)).alloc (.cells b.cells 25) = W1 at *
  go_quiet (fail)
  generalize hW : World.drewN _ _ = w2
  have HB2 : Hid (Below w.heap.size w w2) := Lib.hid (by rw [← hW]; exact pw_below_drewN2 HB.out _)
  have K : Bx w2 w.heap.size a := by rw [← hW]; exact bx_drewN ⟨k0, k1, k2, k3, k4, k5, k6, k7, k8, k9, k10⟩ _
  have J : Bx w2 (w.heap.size + 1) b := by rw [← hW]; exact bx_drewN ⟨j0, j1, j2, j3, j4, j5, j6, j7, j8, j9, j10⟩ _
  clear hW k0 k1 k2 k3 k4 k5 k6 k7 k8 k9 k10 j0 j1 j2 j3 j4 j5 j6 j7 j8 j9 j10
  obtain ⟨k0, k1, k2, k3, k4, k5, k6, k7, k8, k9, k10⟩ := K
  obtain ⟨j0, j1, j2, j3, j4, j5, j6, j7, j8, j9, j10⟩ := J
  go_wp2_with fail
  cases x0
  · go_quiet (fail)
    go_wp2_with fail
    go_ret
    exact ⟨ret_bool (by simp), pw_below_drewN2 HB2.out _⟩
  · skip
    cases x1
    · go_quiet (fail)
      go_wp2_with fail
      go_ret
      exact ⟨ret_bool (by simp), pw_below_drewN2 HB2.out _⟩
    · skip
      cases x2
      · go_quiet (fail)
        go_wp2_with fail
        go_ret
        exact ⟨ret_bool (by simp), pw_below_drewN2 HB2.out _⟩
      · skip
        cases x3
        · go_quiet (fail)
          go_wp2_with fail
          go_ret
          exact ⟨ret_bool (by simp), pw_below_drewN2 HB2.out _⟩
        · skip
          cases x4
          · go_quiet (fail)
            go_wp2_with fail
            go_ret
            exact ⟨ret_bool (by simp), pw_below_drewN2 HB2.out _⟩
          · skip
            cases x5
            · go_quiet (fail)
              go_wp2_with fail
              go_ret
              exact ⟨ret_bool (by simp), pw_below_drewN2 HB2.out _⟩
            · skip
              cases x6
              · go_quiet (fail)
                go_wp2_with fail
                go_ret
                exact ⟨ret_bool (by simp), pw_below_drewN2 HB2.out _⟩
              · skip
                cases x7
                · go_quiet (fail)
                  go_wp2_with fail
                  go_ret
                  exact ⟨ret_bool (by simp), pw_below_drewN2 HB2.out _⟩
                · skip
                  cases x8
                  · go_quiet (fail)
                    go_wp2_with fail
                    go_ret
                    exact ⟨ret_bool (by simp), pw_below_drewN2 HB2.out _⟩
                  · skip
                    cases x9
                    · go_quiet (fail)
                      go_wp2_with fail
                      go_ret
                      exact ⟨ret_bool (by simp), pw_below_drewN2 HB2.out _⟩
                    · skip
                      cases x10
                      · go_quiet (fail)
                        go_wp2_with fail
                        go_ret
                        exact ⟨ret_bool (by simp), pw_below_drewN2 HB2.out _⟩
                      · go_quiet (fail)
                        go_wp2_with fail
                        go_ret
                        exact ⟨ret_bool (by simp), pw_below_drewN2 HB2.out _⟩
end Go.Proofs.YtkcjgmicoifhcaaGreatDoor.Ev

/- E1: event.fields, event.goods, event.Good. -/
namespace Go.Proofs.YtkcjgmicoifhcaaGreatDoor.Ev
open Go.RowKit Go.Proofs.YtkcjgmicoifhcaaGreatDoor.Pk Go.Proofs.YtkcjgmicoifhcaaGreatDoor.Re

/-- The letters of a kind's fields. -/
def letters (k : Int) : ByteArray :=
  if k = 1 then ⟨#[108, 97, 114, 117]⟩ else if k = 2 then ⟨#[108, 115]⟩ else if k = 3 then ⟨#[97]⟩ else if k = 4 then ⟨#[108, 97]⟩ else if k = 5 then ⟨#[112]⟩ else if k = 7 then ⟨#[108]⟩ else if k = 8 then ⟨#[108]⟩ else ByteArray.empty
def kindB (k : Int) : Bool := decide (1 ≤ k) && decide (k ≤ 8)
set_option maxRecDepth 20000 in
theorem fields_calls (k : Int) (w : World) : Calls Tryz.prog 63 #[.int .i64 k] w fun e w' => e = .returned (.tuple #[.string (letters k), .bool (kindB k)]) ∧ w' = w := by
  by_cases h : 1 ≤ k ∧ k ≤ 8
  · obtain rfl | rfl | rfl | rfl | rfl | rfl | rfl | rfl : k = 1 ∨ k = 2 ∨ k = 3 ∨ k = 4 ∨ k = 5 ∨ k = 6 ∨ k = 7 ∨ k = 8 := by omega
    · have hix : ∀ W : World, (Instr.index 137 (.agg #[.string { data := #[] }, .string { data := #[108, 97, 114, 117] }, .string { data := #[108, 115] }, .string { data := #[97] }, .string { data := #[108, 97] }, .string { data := #[112] }, .string { data := #[] }, .string { data := #[108] }, .string { data := #[108] }]) (.int .i64 1)).run Tryz.prog W = .ok (.string (letters 1)) W := fun W => by kernel_rfl
      go_enter Tryz.func63, Tryz.ntmps63
      go_wp2_with fail
      go_ret2
      exact ⟨rfl, rfl⟩
    · have hix : ∀ W : World, (Instr.index 137 (.agg #[.string { data := #[] }, .string { data := #[108, 97, 114, 117] }, .string { data := #[108, 115] }, .string { data := #[97] }, .string { data := #[108, 97] }, .string { data := #[112] }, .string { data := #[] }, .string { data := #[108] }, .string { data := #[108] }]) (.int .i64 2)).run Tryz.prog W = .ok (.string (letters 2)) W := fun W => by kernel_rfl
      go_enter Tryz.func63, Tryz.ntmps63
      go_wp2_with fail
      go_ret2
      exact ⟨rfl, rfl⟩
    · have hix : ∀ W : World, (Instr.index 137 (.agg #[.string { data := #[] }, .string { data := #[108, 97, 114, 117] }, .string { data := #[108, 115] }, .string { data := #[97] }, .string { data := #[108, 97] }, .string { data := #[112] }, .string { data := #[] }, .string { data := #[108] }, .string { data := #[108] }]) (.int .i64 3)).run Tryz.prog W = .ok (.string (letters 3)) W := fun W => by kernel_rfl
      go_enter Tryz.func63, Tryz.ntmps63
      go_wp2_with fail
      go_ret2
      exact ⟨rfl, rfl⟩
    · have hix : ∀ W : World, (Instr.index 137 (.agg #[.string { data := #[] }, .string { data := #[108, 97, 114, 117] }, .string { data := #[108, 115] }, .string { data := #[97] }, .string { data := #[108, 97] }, .string { data := #[112] }, .string { data := #[] }, .string { data := #[108] }, .string { data := #[108] }]) (.int .i64 4)).run Tryz.prog W = .ok (.string (letters 4)) W := fun W => by kernel_rfl
      go_enter Tryz.func63, Tryz.ntmps63
      go_wp2_with fail
      go_ret2
      exact ⟨rfl, rfl⟩
    · have hix : ∀ W : World, (Instr.index 137 (.agg #[.string { data := #[] }, .string { data := #[108, 97, 114, 117] }, .string { data := #[108, 115] }, .string { data := #[97] }, .string { data := #[108, 97] }, .string { data := #[112] }, .string { data := #[] }, .string { data := #[108] }, .string { data := #[108] }]) (.int .i64 5)).run Tryz.prog W = .ok (.string (letters 5)) W := fun W => by kernel_rfl
      go_enter Tryz.func63, Tryz.ntmps63
      go_wp2_with fail
      go_ret2
      exact ⟨rfl, rfl⟩
    · have hix : ∀ W : World, (Instr.index 137 (.agg #[.string { data := #[] }, .string { data := #[108, 97, 114, 117] }, .string { data := #[108, 115] }, .string { data := #[97] }, .string { data := #[108, 97] }, .string { data := #[112] }, .string { data := #[] }, .string { data := #[108] }, .string { data := #[108] }]) (.int .i64 6)).run Tryz.prog W = .ok (.string (letters 6)) W := fun W => by kernel_rfl
      go_enter Tryz.func63, Tryz.ntmps63
      go_wp2_with fail
      go_ret2
      exact ⟨rfl, rfl⟩
    · have hix : ∀ W : World, (Instr.index 137 (.agg #[.string { data := #[] }, .string { data := #[108, 97, 114, 117] }, .string { data := #[108, 115] }, .string { data := #[97] }, .string { data := #[108, 97] }, .string { data := #[112] }, .string { data := #[] }, .string { data := #[108] }, .string { data := #[108] }]) (.int .i64 7)).run Tryz.prog W = .ok (.string (letters 7)) W := fun W => by kernel_rfl
      go_enter Tryz.func63, Tryz.ntmps63
      go_wp2_with fail
      go_ret2
      exact ⟨rfl, rfl⟩
    · have hix : ∀ W : World, (Instr.index 137 (.agg #[.string { data := #[] }, .string { data := #[108, 97, 114, 117] }, .string { data := #[108, 115] }, .string { data := #[97] }, .string { data := #[108, 97] }, .string { data := #[112] }, .string { data := #[] }, .string { data := #[108] }, .string { data := #[108] }]) (.int .i64 8)).run Tryz.prog W = .ok (.string (letters 8)) W := fun W => by kernel_rfl
      go_enter Tryz.func63, Tryz.ntmps63
      go_wp2_with fail
      go_ret2
      exact ⟨rfl, rfl⟩
  · have e1 : letters k = ByteArray.empty := by
      unfold letters
      repeat rw [if_neg (by omega)]
    have e2 : kindB k = false := by
      unfold kindB
      by_cases c : 1 ≤ k
      · simp; omega
      · simp [c]
    rw [e1, e2]
    have h' : k < 1 ∨ 9 ≤ k := by omega
    rcases h' with h' | h'
    all_goals
      go_enter Tryz.func63, Tryz.ntmps63
      go_wp2_with fail
      go_ret2
      exact ⟨rfl, rfl⟩
/-- The tests, each at its letter. -/
def goodsA : Array Value := (((((((Array.replicate 128 Value.nilFunc).setIfInBounds 108 (Value.func (Fn.func 96) #[] #[])).setIfInBounds 97 (Value.func (Fn.func 97) #[] #[])).setIfInBounds 114 (Value.func (Fn.func 98) #[] #[])).setIfInBounds 117 (Value.func (Fn.func 102) #[] #[])).setIfInBounds 115 (Value.func (Fn.func 103) #[] #[])).setIfInBounds 112 (Value.func (Fn.func 104) #[] #[]))
theorem zeros79 : Tryz.zeroCells107 = Array.replicate 128 .nilFunc := by kernel_rfl
theorem goods_size : goodsA.size = 128 := by simp [goodsA]
theorem goods_nil (f : Nat) (hf : f < 128) (h : f ≠ 97 ∧ f ≠ 108 ∧ f ≠ 112 ∧ f ≠ 114 ∧ f ≠ 115 ∧ f ≠ 117) : goodsA[f]? = some .nilFunc := by
  obtain ⟨h1, h2, h3, h4, h5, h6⟩ := h
  simp only [goodsA, Array.getElem?_setIfInBounds, Array.getElem?_replicate]
  rw [if_neg (by omega), if_neg (by omega), if_neg (by omega), if_neg (by omega), if_neg (by omega), if_neg (by omega), if_pos hf]
theorem goods_at : goodsA[97]? = some (.func (.func 97) #[] #[]) ∧ goodsA[108]? = some (.func (.func 96) #[] #[]) ∧ goodsA[112]? = some (.func (.func 104) #[] #[]) ∧
    goodsA[114]? = some (.func (.func 98) #[] #[]) ∧ goodsA[115]? = some (.func (.func 103) #[] #[]) ∧ goodsA[117]? = some (.func (.func 102) #[] #[]) := by
  refine ⟨?_, ?_, ?_, ?_, ?_, ?_⟩ <;> simp [goodsA]
set_option maxRecDepth 20000 in
theorem goods_calls (w : World) : Calls Tryz.prog 65 #[] w fun e w' => e = .returned (.agg goodsA) ∧ Below w.heap.size w w' := by
  have hst := run_storeCells_new (P := Tryz.prog) w 107 Tryz.zeroCells107 goodsA (by rw [goods_size]; kernel_rfl) (by rw [goods_size]; kernel_rfl) (by kernel_rfl)
  rw [show goodsA.toList = ((((((Tryz.zeroCells107.toList.set 108 (Value.func (Fn.func 96) #[] #[])).set 97 (Value.func (Fn.func 97) #[] #[])).set 114 (Value.func (Fn.func 98) #[] #[])).set 117 (Value.func (Fn.func 102) #[] #[])).set 115 (Value.func (Fn.func 103) #[] #[])).set 112 (Value.func (Fn.func 104) #[] #[])) by simp [goodsA, zeros79]] at hst
  have hnew := heap_alloc_new w (.cells goodsA 107)
  have HB := Lib.hid ((Below.refl w.heap.size w).alloc (Nat.le_refl _) (.cells goodsA 107))
  go_enter Tryz.func65, Tryz.ntmps65
  go_wp2_with fail
  (try simp only [Exit.inBlock, Exit.then])
  refine bodyPost_ret (results_cell_row (p := 0) (ty := 107) rfl _ _ w.heap.size 107 _ _ _ rfl hnew Tryz.underlying107 rfl (by kernel_rfl)) rfl ?_
  exact ⟨rfl, HB.out⟩
theorem index79 (f : Nat) (hf : f < 128) (v : Value) (hv : goodsA[f]? = some v) (W : World) : (Instr.index 107 (.agg goodsA) (.int .i64 (f : Int))).run Tryz.prog W = .ok v W := by
  have h1 : (0 : Int) ≤ f ∧ (f : Int) < 128 := by omega
  simp [Instr.index, run_underlying Tryz.underlying107, asIntOf, Tryz.sizeOf106, part, Tryz.isAgg106, hv, h1, hf, go_sem]
/-- Has a text a letter? -/
def hasL (l : ByteArray) (f : Int) : Bool := (ints l).any (· == f)
/-- The test at a letter. -/
def testF (e : E) (f : Int) : Bool :=
  if f = 97 then fieldB e.amount 1000000000 (hasL (letters e.kind) 97)
  else if f = 108 then fieldB e.loan 1000 (hasL (letters e.kind) 108)
  else if f = 112 then planB e.plan e.family e.income (hasL (letters e.kind) 112)
  else if f = 114 then rateB e.rate (hasL (letters e.kind) 114)
  else if f = 115 then fieldB e.status 5 (hasL (letters e.kind) 115)
  else if f = 117 then hasL (letters e.kind) 117 || !e.sub
  else true
/-- Has an event a form? -/
def goodE (e : E) : Bool := kindB e.kind && (dayB e.day && (testF e 97 && (testF e 108 && (testF e 112 && (testF e 114 && (testF e 115 && testF e 117))))))
theorem goodE_of (e : E) (h1 : kindB e.kind = true) (h2 : dayB e.day = true) (h : ∀ j : Nat, j < 128 → testF e (j : Int) = true) : goodE e = true := by
  unfold goodE
  have a97 : testF e 97 = true := h 97 (by decide)
  have a108 : testF e 108 = true := h 108 (by decide)
  have a112 : testF e 112 = true := h 112 (by decide)
  have a114 : testF e 114 = true := h 114 (by decide)
  have a115 : testF e 115 = true := h 115 (by decide)
  have a117 : testF e 117 = true := h 117 (by decide)
  rw [h1, h2, a97, a108, a112, a114, a115, a117]
  rfl
theorem goodE_not (e : E) (j : Nat) (h : testF e (j : Int) = false) : goodE e = false := by
  have hj : j = 97 ∨ j = 108 ∨ j = 112 ∨ j = 114 ∨ j = 115 ∨ j = 117 := by
    refine Decidable.byContradiction fun hn => ?_
    have : testF e (j : Int) = true := by
      unfold testF
      rw [if_neg (by omega), if_neg (by omega), if_neg (by omega), if_neg (by omega), if_neg (by omega), if_neg (by omega)]
    rw [this] at h
    cases h
  unfold goodE
  rcases hj with rfl | rfl | rfl | rfl | rfl | rfl
  · have h' : testF e 97 = false := h
    simp [h']
  · have h' : testF e 108 = false := h
    simp [h']
  · have h' : testF e 112 = false := h
    simp [h']
  · have h' : testF e 114 = false := h
    simp [h']
  · have h' : testF e 115 = false := h
    simp [h']
  · have h' : testF e 117 = false := h
    simp [h']
end Go.Proofs.YtkcjgmicoifhcaaGreatDoor.Ev

/- E2: The walk of event.Good. -/
namespace Go.Proofs.YtkcjgmicoifhcaaGreatDoor.Ev
open Go.RowKit Go.Proofs.YtkcjgmicoifhcaaGreatDoor.Pk Go.Proofs.YtkcjgmicoifhcaaGreatDoor.Re

theorem letters_size (k : Int) : (letters k).size ≤ 4 := by
  unfold letters
  repeat' split
  all_goals decide
theorem hasL_take (l : ByteArray) (f : Int) (i : Nat) (hi : i < l.size) : ((ints l).take (i + 1)).any (· == f) = (((ints l).take i).any (· == f) || ((l[i].toNat : Int) == f)) := by
  have hlen : i < (ints l).length := by rw [ints_length]; exact hi
  rw [List.take_succ_eq_append_getElem hlen, List.any_append]
  congr 1
  have : (ints l)[i] = (l[i].toNat : Int) := by simp [ints, ByteArray.getElem_eq_getElem_data]
  simp [this]
theorem hasL_all (l : ByteArray) (f : Int) : ((ints l).take l.size).any (· == f) = hasL l f := by
  unfold hasL
  rw [List.take_of_length_le (by rw [ints_length]; exact Nat.le_refl _)]
theorem tests_at (e : E) (l : ByteArray) (hl : letters e.kind = l) : testF e 97 = fieldB e.amount 1000000000 (hasL l 97) ∧ testF e 108 = fieldB e.loan 1000 (hasL l 108) ∧
    testF e 112 = planB e.plan e.family e.income (hasL l 112) ∧ testF e 114 = rateB e.rate (hasL l 114) ∧ testF e 115 = fieldB e.status 5 (hasL l 115) ∧ testF e 117 = (hasL l 117 || !e.sub) := by
  subst hl
  exact ⟨rfl, rfl, rfl, rfl, rfl, rfl⟩
theorem testF_nil (e : E) (f : Nat) (h : f ≠ 97 ∧ f ≠ 108 ∧ f ≠ 112 ∧ f ≠ 114 ∧ f ≠ 115 ∧ f ≠ 117) : testF e (f : Int) = true := by
  obtain ⟨h1, h2, h3, h4, h5, h6⟩ := h
  unfold testF
  rw [if_neg (by omega), if_neg (by omega), if_neg (by omega), if_neg (by omega), if_neg (by omega), if_neg (by omega)]
theorem nextF (e : E) (f : Nat) (h : ∀ j : Nat, j < f → testF e (j : Int) = true) (hc : testF e (f : Int) = true) : ∀ j : Nat, j < f + 1 → testF e (j : Int) = true := by
  intro j hj
  by_cases c : j = f
  · subst c; exact hc
  · exact h j (by omega)
theorem byte_wrap (b : UInt8) : wrap64 (b.toNat : Int) = (b.toNat : Int) := by
  have := b.toNat_lt
  exact wr64 _ (by omega)
set_option maxRecDepth 20000 in
set_option maxHeartbeats 4000000 in
theorem good_calls (e : E) (w : World) (hr : e.rate < 18446744073709551616) (hi : e.income < 18446744073709551616) :
    Calls Tryz.prog 36 #[e.v] w fun r w' => r = .returned (.bool (goodE e)) ∧ Below w.heap.size w w' := by
  have hb := Blk.new w 25 e.cells
  have HBk := Lib.hid hb
  obtain ⟨k0, k1, k2, k3, k4, k5, k6, k7, k8, k9, k10⟩ := bx_of hb
  have HB := Lib.hid ((Below.refl w.heap.size w).alloc (Nat.le_refl _) (.cells e.cells 25))
  clear hb
  have HF := Lib.hid (fun W => fields_calls e.kind W)
  have HD := Lib.hid (fun W => day_calls e.day W)
  have HL := Lib.hid (letters_size e.kind)
  obtain ⟨l, hl⟩ : ∃ l, letters e.kind = l := ⟨_, rfl⟩
  have hT : goodE e = (kindB e.kind && (dayB e.day && goodE e)) := by
    unfold goodE
    cases kindB e.kind <;> cases dayB e.day <;> rfl
  rw [hl] at HF HL
  go_enter Tryz.func36, Tryz.ntmps36
  go_upto_region 1 with fail
  generalize w.alloc (.cells e.cells 25) = W1 at *
  go_wp2_with fail
  refine (HF.out _).mono ?_
  rintro r w1 ⟨rfl, rfl⟩
  cases hk : kindB e.kind with
  | false =>
    rw [hk] at hT
    go_wp2_with fail
    go_ret
    exact ⟨ret_bool (by rw [hT]; rfl), HB.out⟩
  | true =>
    go_wp2_with fail
    refine (HD.out _).mono ?_
    rintro r w1 ⟨rfl, rfl⟩
    cases hd : dayB e.day with
    | false =>
      rw [hk, hd] at hT
      go_wp2_with fail
      go_ret
      exact ⟨ret_bool (by rw [hT]; rfl), HB.out⟩
    | true =>
      clear k0 k1 k2 k3 k4 k5 k6 k7 k8 k9 k10 hT
      go_wp2_with fail
      refine (goods_calls _).mono ?_
      rintro r w2 ⟨rfl, b2⟩
      have HB2 := Lib.hid b2
      have HK2 := Lib.hid (HBk.out.below b2)
      have HS := Lib.hid HBk.out.lt
      clear b2
      go_wp2_with fail
      go_loopw [24] (fun i wr => ∃ f : Nat, f ≤ 128 ∧ i = .int .i64 (f : Int) ∧ (∀ j : Nat, j < f → testF e (j : Int) = true) ∧ Below w1.heap.size w1 wr) (fun i _ => 128 - (intOf i).toNat)
      case atStart => exact ⟨0, by decide, rfl, fun j hj => absurd hj (Nat.not_lt_zero j), HB2.out⟩
      case round =>
        obtain ⟨f, hf, rfl, hj, hbl⟩ := hrel
        have Hj := Lib.hid hj
        have Hbl := Lib.hid hbl
        have HKr := Lib.hid (HBk.out.below hbl)
        clear hj hbl
        by_cases hf2 : f < 128
        · have hix : ∃ v, goodsA[f]? = some v := ⟨_, Array.getElem?_eq_getElem (by rw [goods_size]; exact hf2)⟩
          obtain ⟨v, hv⟩ := hix
          have hix := index79 f hf2 v hv
          go_wp2_with fail
          go_loopw [30, 7] (fun i h w3 => ∃ j : Nat, j ≤ l.size ∧ i = .int .i64 (j : Int) ∧ h = .bool (((ints l).take j).any (· == (f : Int))) ∧ w3 = wr) (fun i _ _ => l.size - (intOf i).toNat)
          case atStart => exact ⟨0, Nat.zero_le _, rfl, rfl, rfl⟩
          case round =>
            obtain ⟨j, hj, rfl, rfl, rfl⟩ := hrel
            by_cases hj2 : j < l.size
            · have ht := hasL_take l f j hj2
              have HT := Lib.hid ht
              clear ht
              obtain ⟨b, hb⟩ : ∃ b, ((ints l).take j).any (· == (f : Int)) = b := ⟨_, rfl⟩
              rw [hb] at HT ⊢
              clear hb
              have hs4 := HL.out
              cases b
              · go_wp2_with fail
                refine ⟨⟨j + 1, by omega, by go_num, ?_, trivial⟩, by simp [intOf]; omega⟩
                rw [HT.out, byte_wrap, Bool.false_or]
              · go_wp2_with fail
                refine ⟨⟨j + 1, by omega, by go_num, ?_, trivial⟩, by simp [intOf]; omega⟩
                rw [HT.out, Bool.true_or]
            · have hje : j = l.size := by omega
              rw [hje, hasL_all]
              clear hj2 hj hje
              obtain ⟨k0, k1, k2, k3, k4, k5, k6, k7, k8, k9, k10⟩ := bx_of HKr.out
              obtain ⟨A97, A108, A112, A114, A115, A117⟩ := goods_at
              obtain ⟨T97, T108, T112, T114, T115, T117⟩ := tests_at e l hl
              by_cases hn : f ≠ 97 ∧ f ≠ 108 ∧ f ≠ 112 ∧ f ≠ 114 ∧ f ≠ 115 ∧ f ≠ 117
              · have hv2 : v = .nilFunc := Option.some.inj (hv.symm.trans (goods_nil f hf2 hn))
                subst hv2
                have hc := testF_nil e f hn
                have hq : ∀ W : World, (binOp .neq 106 .nilFunc .nilFunc).run Tryz.prog W = .ok (.bool false) W := fun W => by kernel_rfl
                clear A97 A108 A112 A114 A115 A117 T97 T108 T112 T114 T115 T117 hv hix hn k0 k1 k2 k3 k4 k5 k6 k7 k8 k9 k10
                go_wp2_with fail
                refine ⟨⟨f + 1, by omega, by go_num, nextF e f Hj.out hc, Hbl.out⟩, by simp [intOf]; omega⟩
              have hn' : f = 97 ∨ f = 108 ∨ f = 112 ∨ f = 114 ∨ f = 115 ∨ f = 117 := by omega
              clear hn
              rcases hn' with rfl | rfl | rfl | rfl | rfl | rfl
              · have hv2 : v = .func (.func 97) #[] #[] := Option.some.inj (hv.symm.trans A97)
                subst hv2
                have HC := Lib.hid (fun W => g2_calls e (hasL l 97) W)
                have ht := T97
                obtain ⟨c, hc⟩ : ∃ c, testF e (97 : Int) = c := ⟨_, rfl⟩
                rw [← ht, hc] at HC
                have HC' : Hid (∀ W, Calls Tryz.prog 97 #[e.v, .bool (hasL l ((97 : Nat) : Int))] W fun r w' => r = .returned (.bool c) ∧ Below W.heap.size W w') := HC
                have hq : ∀ W : World, (binOp .neq 106 (.func (.func 97) #[] #[]) .nilFunc).run Tryz.prog W = .ok (.bool true) W := fun W => by kernel_rfl
                clear hv hix ht HC A97 A108 A112 A114 A115 A117 T97 T108 T112 T114 T115 T117
                go_wp2_with fail
                refine (HC'.out _).mono ?_
                rintro r w4 ⟨rfl, b4⟩
                have HB4 := Lib.hid (Hbl.out.trans (b4.mono Hbl.out.size))
                clear b4
                cases c
                · go_wp2_with fail
                  go_ret
                  exact ⟨ret_bool (goodE_not e 97 hc).symm, HB.out.trans (HB4.out.mono HB.out.size)⟩
                · go_wp2_with fail
                  refine ⟨⟨98, by decide, rfl, nextF e 97 Hj.out hc, HB4.out⟩, by simp [intOf]⟩
              · have hv2 : v = .func (.func 96) #[] #[] := Option.some.inj (hv.symm.trans A108)
                subst hv2
                have HC := Lib.hid (fun W => g1_calls e (hasL l 108) W)
                have ht := T108
                obtain ⟨c, hc⟩ : ∃ c, testF e (108 : Int) = c := ⟨_, rfl⟩
                rw [← ht, hc] at HC
                have HC' : Hid (∀ W, Calls Tryz.prog 96 #[e.v, .bool (hasL l ((108 : Nat) : Int))] W fun r w' => r = .returned (.bool c) ∧ Below W.heap.size W w') := HC
                have hq : ∀ W : World, (binOp .neq 106 (.func (.func 96) #[] #[]) .nilFunc).run Tryz.prog W = .ok (.bool true) W := fun W => by kernel_rfl
                clear hv hix ht HC A97 A108 A112 A114 A115 A117 T97 T108 T112 T114 T115 T117
                go_wp2_with fail
                refine (HC'.out _).mono ?_
                rintro r w4 ⟨rfl, b4⟩
                have HB4 := Lib.hid (Hbl.out.trans (b4.mono Hbl.out.size))
                clear b4
                cases c
                · go_wp2_with fail
                  go_ret
                  exact ⟨ret_bool (goodE_not e 108 hc).symm, HB.out.trans (HB4.out.mono HB.out.size)⟩
                · go_wp2_with fail
                  refine ⟨⟨109, by decide, rfl, nextF e 108 Hj.out hc, HB4.out⟩, by simp [intOf]⟩
              · have hv2 : v = .func (.func 104) #[] #[] := Option.some.inj (hv.symm.trans A112)
                subst hv2
                have HC := Lib.hid (fun W => g6_calls e (hasL l 112) W hi)
                have ht := T112
                obtain ⟨c, hc⟩ : ∃ c, testF e (112 : Int) = c := ⟨_, rfl⟩
                rw [← ht, hc] at HC
                have HC' : Hid (∀ W, Calls Tryz.prog 104 #[e.v, .bool (hasL l ((112 : Nat) : Int))] W fun r w' => r = .returned (.bool c) ∧ Below W.heap.size W w') := HC
                have hq : ∀ W : World, (binOp .neq 106 (.func (.func 104) #[] #[]) .nilFunc).run Tryz.prog W = .ok (.bool true) W := fun W => by kernel_rfl
                clear hv hix ht HC A97 A108 A112 A114 A115 A117 T97 T108 T112 T114 T115 T117
                go_wp2_with fail
                refine (HC'.out _).mono ?_
                rintro r w4 ⟨rfl, b4⟩
                have HB4 := Lib.hid (Hbl.out.trans (b4.mono Hbl.out.size))
                clear b4
                cases c
                · go_wp2_with fail
                  go_ret
                  exact ⟨ret_bool (goodE_not e 112 hc).symm, HB.out.trans (HB4.out.mono HB.out.size)⟩
                · go_wp2_with fail
                  refine ⟨⟨113, by decide, rfl, nextF e 112 Hj.out hc, HB4.out⟩, by simp [intOf]⟩
              · have hv2 : v = .func (.func 98) #[] #[] := Option.some.inj (hv.symm.trans A114)
                subst hv2
                have HC := Lib.hid (fun W => g3_calls e (hasL l 114) W hr)
                have ht := T114
                obtain ⟨c, hc⟩ : ∃ c, testF e (114 : Int) = c := ⟨_, rfl⟩
                rw [← ht, hc] at HC
                have HC' : Hid (∀ W, Calls Tryz.prog 98 #[e.v, .bool (hasL l ((114 : Nat) : Int))] W fun r w' => r = .returned (.bool c) ∧ Below W.heap.size W w') := HC
                have hq : ∀ W : World, (binOp .neq 106 (.func (.func 98) #[] #[]) .nilFunc).run Tryz.prog W = .ok (.bool true) W := fun W => by kernel_rfl
                clear hv hix ht HC A97 A108 A112 A114 A115 A117 T97 T108 T112 T114 T115 T117
                go_wp2_with fail
                refine (HC'.out _).mono ?_
                rintro r w4 ⟨rfl, b4⟩
                have HB4 := Lib.hid (Hbl.out.trans (b4.mono Hbl.out.size))
                clear b4
                cases c
                · go_wp2_with fail
                  go_ret
                  exact ⟨ret_bool (goodE_not e 114 hc).symm, HB.out.trans (HB4.out.mono HB.out.size)⟩
                · go_wp2_with fail
                  refine ⟨⟨115, by decide, rfl, nextF e 114 Hj.out hc, HB4.out⟩, by simp [intOf]⟩
              · have hv2 : v = .func (.func 103) #[] #[] := Option.some.inj (hv.symm.trans A115)
                subst hv2
                have HC := Lib.hid (fun W => g5_calls e (hasL l 115) W)
                have ht := T115
                obtain ⟨c, hc⟩ : ∃ c, testF e (115 : Int) = c := ⟨_, rfl⟩
                rw [← ht, hc] at HC
                have HC' : Hid (∀ W, Calls Tryz.prog 103 #[e.v, .bool (hasL l ((115 : Nat) : Int))] W fun r w' => r = .returned (.bool c) ∧ Below W.heap.size W w') := HC
                have hq : ∀ W : World, (binOp .neq 106 (.func (.func 103) #[] #[]) .nilFunc).run Tryz.prog W = .ok (.bool true) W := fun W => by kernel_rfl
                clear hv hix ht HC A97 A108 A112 A114 A115 A117 T97 T108 T112 T114 T115 T117
                go_wp2_with fail
                refine (HC'.out _).mono ?_
                rintro r w4 ⟨rfl, b4⟩
                have HB4 := Lib.hid (Hbl.out.trans (b4.mono Hbl.out.size))
                clear b4
                cases c
                · go_wp2_with fail
                  go_ret
                  exact ⟨ret_bool (goodE_not e 115 hc).symm, HB.out.trans (HB4.out.mono HB.out.size)⟩
                · go_wp2_with fail
                  refine ⟨⟨116, by decide, rfl, nextF e 115 Hj.out hc, HB4.out⟩, by simp [intOf]⟩
              · have hv2 : v = .func (.func 102) #[] #[] := Option.some.inj (hv.symm.trans A117)
                subst hv2
                have HC := Lib.hid (fun W => g4_calls e (hasL l 117) W)
                have ht := T117
                obtain ⟨c, hc⟩ : ∃ c, testF e (117 : Int) = c := ⟨_, rfl⟩
                rw [← ht, hc] at HC
                have HC' : Hid (∀ W, Calls Tryz.prog 102 #[e.v, .bool (hasL l ((117 : Nat) : Int))] W fun r w' => r = .returned (.bool c) ∧ Below W.heap.size W w') := HC
                have hq : ∀ W : World, (binOp .neq 106 (.func (.func 102) #[] #[]) .nilFunc).run Tryz.prog W = .ok (.bool true) W := fun W => by kernel_rfl
                clear hv hix ht HC A97 A108 A112 A114 A115 A117 T97 T108 T112 T114 T115 T117
                go_wp2_with fail
                refine (HC'.out _).mono ?_
                rintro r w4 ⟨rfl, b4⟩
                have HB4 := Lib.hid (Hbl.out.trans (b4.mono Hbl.out.size))
                clear b4
                cases c
                · go_wp2_with fail
                  go_ret
                  exact ⟨ret_bool (goodE_not e 117 hc).symm, HB.out.trans (HB4.out.mono HB.out.size)⟩
                · go_wp2_with fail
                  refine ⟨⟨118, by decide, rfl, nextF e 117 Hj.out hc, HB4.out⟩, by simp [intOf]⟩
        · obtain rfl : f = 128 := by omega
          have hg := goodE_of e hk hd Hj.out
          go_wp2_with fail
          go_ret
          exact ⟨ret_bool hg.symm, HB.out.trans (Hbl.out.mono HB.out.size)⟩
end Go.Proofs.YtkcjgmicoifhcaaGreatDoor.Ev
