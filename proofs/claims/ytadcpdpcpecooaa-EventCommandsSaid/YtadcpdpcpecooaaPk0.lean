/- What is told of a Packer in memory, and the frame that its calls keep. Plain facts on worlds; no walk. -/
import Derived.Test.YtadcpdpcpecooaaProg
import Derived.WalkKit
import Derived.Deep.AppendLies
import Derived.Deep.Draws
import Derived.Lib.AppendStr
import Derived.KernelRfl
namespace Go.Proofs.Ytadcpdpcpecooaa.Pk
open Go.RowKit

/-- Whole numbers as cells. -/
def nums (k : IntKind) (xs : List Int) : List Value := xs.map fun x => .int k x
theorem nums_length (k : IntKind) (xs : List Int) : (nums k xs).length = xs.length := by simp [nums]
theorem nums_append (k : IntKind) (xs ys : List Int) : nums k (xs ++ ys) = nums k xs ++ nums k ys := by simp [nums]

/-- A block that is known whole. -/
def Blk (w : World) (g : Nat) (t : TypeId) (cs : Array Value) : Prop := w.heap[g]? = some (.cells cs t (0, 0))
section
variable {w w' : World} {g : Nat} {t : TypeId} {cs : Array Value}
theorem Blk.lt (h : Blk w g t cs) : g < w.heap.size := by
  rcases Nat.lt_or_ge g w.heap.size with hlt | hge
  · exact hlt
  · unfold Blk at h; rw [Array.getElem?_eq_none hge] at h; cases h
theorem Blk.cell (h : Blk w g t cs) (i : Nat) : w.cell? ⟨g, i, none⟩ = cs[i]? := cell_of_row w g i cs t (0, 0) h
theorem Blk.frozen (h : Blk w g t cs) (i : Nat) : w.frozen? ⟨g, i, none⟩ = false := by
  unfold Blk at h
  simp [World.frozen?, h]
theorem Blk.new (w : World) (t : TypeId) (cs : Array Value) : Blk (w.alloc (.cells cs t)) w.heap.size t cs := heap_alloc_new w _
theorem Blk.set_ (h : Blk w g t cs) (i : Nat) (u : Value) : Blk (w.setCell ⟨g, i, none⟩ u) g t (cs.setIfInBounds i u) := by
  unfold Blk at h ⊢
  simp [World.setCell, Array.getElem?_modify, h]
theorem Blk.same (h : Blk w g t cs) (e : w'.heap[g]? = w.heap[g]?) : Blk w' g t cs := e.trans h
theorem Blk.ne_ {g' : Nat} {t' : TypeId} {cs' : Array Value} (h : Blk w g t cs) (h' : Blk w g' t' cs') (hne : t ≠ t') : g ≠ g' := by
  rintro rfl
  unfold Blk at h h'
  rw [h] at h'
  injection h' with h'
  injection h' with _ ht
  exact hne ht
theorem own_blk_ne {base : Nat} {e : TypeId} {size n : Nat} {v : Value} {xs : List Value} (h : w.ownsRow base e size v n xs) (hg : Blk w g t cs) (hne : e ≠ t) : v.ownBlock ≠ some g := by
  rcases h.2 with ⟨rfl, _⟩ | ⟨g', cap, cur, rfl, _, hh, _⟩
  · simp [Value.ownBlock]
  · intro he
    have : g' = g := by simpa [Value.ownBlock] using he
    subst this
    exact Blk.ne_ (t := e) hh hg hne rfl
end

/-- What is owned stays so where its own block is as it was. -/
theorem own_same {w w' : World} {base : Nat} {e : TypeId} {size n : Nat} {v : Value} {xs : List Value} (h : w.ownsRow base e size v n xs)
    (hs : ∀ k, v.ownBlock = some k → w'.heap[k]? = w.heap[k]?) : w'.ownsRow base e size v n xs := by
  refine ⟨h.1, ?_⟩
  rcases h.2 with hn | ⟨g, cap, cur, rfl, hb, hgg, rest⟩
  · exact .inl hn
  · exact .inr ⟨g, cap, cur, rfl, hb, (hs g rfl).trans hgg, rest⟩

/-- A Packer at block g: its bytes are l (in the row vb), its error e. T: the struct's type, E: the byte's. -/
structure PkAt (T E : TypeId) (w : World) (base g : Nat) (vb : Value) (l : List Int) (e : Int) : Prop where
  blk : Blk w g T #[vb, .int .i64 e]
  ge : base ≤ g
  row : w.ownsRow base E 1 vb l.length (nums .u8 l)

/-- What turns in a call on the Packer at g whose row is vb before and vb' behind. -/
structure Fr (w w' : World) (base g : Nat) (vb vb' : Value) : Prop where
  below : Below base w w'
  same : ∀ k, k < w.heap.size → k ≠ g → vb.ownBlock ≠ some k → w'.heap[k]? = w.heap[k]?
  own : vb'.ownBlock = vb.ownBlock ∨ ∃ k, vb'.ownBlock = some k ∧ w.heap.size ≤ k

theorem Fr.refl (w : World) (base g : Nat) (vb : Value) : Fr w w base g vb vb := ⟨Below.refl _ _, fun _ _ _ _ => rfl, .inl rfl⟩
theorem Fr.trans {w w1 w2 : World} {base g : Nat} {v v1 v2 : Value} (h : Fr w w1 base g v v1) (k : Fr w1 w2 base g v1 v2) : Fr w w2 base g v v2 := by
  refine ⟨h.below.trans k.below, fun i hi hg hv => (k.same i (Nat.lt_of_lt_of_le hi h.below.size) hg ?_).trans (h.same i hi hg hv), ?_⟩
  · rcases h.own with e | ⟨j, e, hj⟩
    · rw [e]; exact hv
    · rw [e]; intro hh; injection hh with hh; omega
  · rcases k.own with e | ⟨j, e, hj⟩
    · rw [e]; exact h.own
    · exact .inr ⟨j, e, Nat.le_trans h.below.size hj⟩
/-- Whatever only makes memory, ahead of it or behind it. -/
theorem Fr.of_below {w w1 : World} {base g : Nat} {v : Value} (h : Below w.heap.size w w1) (hb : base ≤ w.heap.size) : Fr w w1 base g v v :=
  ⟨h.mono hb, fun k hk _ _ => h.block k hk, .inl rfl⟩
theorem PkAt.below {T E : TypeId} {w w1 : World} {base g : Nat} {v : Value} {l : List Int} {e : Int} (h : PkAt T E w base g v l e) (hb : Below w.heap.size w w1) : PkAt T E w1 base g v l e :=
  ⟨h.blk.same (hb.block g h.blk.lt), h.ge, own_same h.row fun _ hk => hb.block _ (h.row.lt _ hk).2⟩
/-- What is kept of another Packer, and of any other block. -/
theorem PkAt.other {T E : TypeId} {w w1 : World} {base g g2 : Nat} {v v1 v2 : Value} {l : List Int} {e : Int} (h : PkAt T E w base g2 v2 l e) (f : Fr w w1 base g v v1)
    (hg : g2 ≠ g) (hv : v.ownBlock ≠ some g2) (hr : v2.ownBlock ≠ some g) (hvv : ∀ k, v2.ownBlock = some k → v.ownBlock ≠ some k) : PkAt T E w1 base g2 v2 l e :=
  ⟨h.blk.same (f.same g2 h.blk.lt hg hv), h.ge, own_same h.row fun k hk => f.same k (h.row.lt k hk).2 (fun e => hr (e ▸ hk)) (hvv k hk)⟩
theorem PkAt.apart {T E : TypeId} {w : World} {base g : Nat} {v : Value} {l : List Int} {e : Int} (h : PkAt T E w base g v l e) (hne : E ≠ T) : v.ownBlock ≠ some g := own_blk_ne h.row h.blk hne

/-- One store into the Packer's own block. -/
theorem PkAt.fr_set {w : World} {base g : Nat} (i : Nat) (u v : Value) (hg : base ≤ g) : Fr w (w.setCell ⟨g, i, none⟩ u) base g v v :=
  ⟨(Below.refl _ _).setCell hg u, fun k _ hk _ => Below.heap_setCell _ _ _ _ hk, .inl rfl⟩

/-- Behind an append onto the row (a world between, which differs from the Packer's by new blocks alone): the Packer's own block. -/
theorem PkAt.grown_blk {T E : TypeId} {w wm w1 : World} {base g : Nat} {v : Value} {l : List Int} {e : Int} (h : PkAt T E w base g v l e) (hne : E ≠ T) (hb : Below w.heap.size w wm)
    (hg : wm.grownBy w1 v.ownBlock) : Blk w1 g T #[v, .int .i64 e] :=
  (h.blk.same (hb.block g h.blk.lt)).same (hg.block g (Nat.lt_of_lt_of_le h.blk.lt hb.size) fun hh => h.apart hne hh.symm)
/-- .. and the Packer, its new row stored. -/
theorem PkAt.grown {T E : TypeId} {w wm w1 : World} {base g : Nat} {v v' : Value} {l xs : List Int} {e : Int} (h : PkAt T E w base g v l e) (hne : E ≠ T) (hb : Below w.heap.size w wm) (hbase : base ≤ w.heap.size)
    (hg : wm.grownBy w1 v.ownBlock) (ho : w1.ownsRow base E 1 v' (l ++ xs).length (nums .u8 (l ++ xs))) (hat : v'.ownBlock = v.ownBlock ∨ ∃ k, v'.ownBlock = some k ∧ w.heap.size ≤ k) :
    PkAt T E (w1.setCell ⟨g, 0, none⟩ v') base g v' (l ++ xs) e ∧ Fr w (w1.setCell ⟨g, 0, none⟩ v') base g v v' := by
  have hk := h.grown_blk hne hb hg
  have hlt := h.blk.lt
  have hvb := h.apart hne
  have hv' : v'.ownBlock ≠ some g := by
    rcases hat with e1 | ⟨k, e1, hk1⟩
    · rw [e1]; exact hvb
    · rw [e1]; intro hh; injection hh with hh; omega
  refine ⟨⟨?_, h.ge, own_same ho fun k hk1 => Below.heap_setCell _ _ _ _ ?_⟩, ⟨?_, ?_, hat⟩⟩
  · have := hk.set_ 0 v'
    simpa using this
  · rintro rfl; exact hv' hk1
  · refine Below.setCell (Below.grown (hb.mono hbase) hg (Nat.le_trans hbase hb.size) fun k hk1 => (h.row.lt k hk1).1) h.ge _
  · intro k hk1 hkg hkv
    rw [Below.heap_setCell _ _ _ _ hkg, hg.block k (Nat.lt_of_lt_of_le hk1 hb.size) fun hh => hkv hh.symm, hb.block k hk1]

/-- The error stored. -/
theorem PkAt.setErr {T E : TypeId} {w : World} {base g : Nat} {v : Value} {l : List Int} {e : Int} (h : PkAt T E w base g v l e) (hne : E ≠ T) (e' : Int) :
    PkAt T E (w.setCell ⟨g, 1, none⟩ (.int .i64 e')) base g v l e' ∧ Fr w (w.setCell ⟨g, 1, none⟩ (.int .i64 e')) base g v v := by
  have hv := h.apart hne
  refine ⟨⟨?_, h.ge, own_same h.row fun k hk => Below.heap_setCell _ _ _ _ ?_⟩, PkAt.fr_set 1 _ v h.ge⟩
  · have := h.blk.set_ 1 (.int .i64 e')
    simpa using this
  · rintro rfl; exact hv hk
theorem PkAt.shape {T E : TypeId} {w : World} {base g : Nat} {v : Value} {l : List Int} {e : Int} (h : PkAt T E w base g v l e) : ∃ A c, v = .slice A l.length c := by
  rcases h.row.2 with ⟨h1, h2⟩ | ⟨gg, cap, cur, h1, _⟩
  · exact ⟨none, 0, by rw [h1, h2]⟩
  · exact ⟨_, cap, h1⟩

/-- The bytes of a number, the lowest first. -/
def byteAt (V : Int) (k : Nat) : Int := V / 256 ^ k % 256
def bytesOf (V : Int) (n : Nat) : List Int := (List.range n).map (byteAt V)
theorem bytesOf_length (V : Int) (n : Nat) : (bytesOf V n).length = n := by simp [bytesOf]
theorem bytesOf_succ (V : Int) (n : Nat) : bytesOf V (n + 1) = bytesOf V n ++ [byteAt V n] := by simp [bytesOf, List.range_succ]
theorem byteAt_wrap (V : Int) (k : Nat) : IntKind.u8.wrap (V / 2 ^ (8 * k)) = byteAt V k := by
  have e : (2 : Int) ^ (8 * k) = 256 ^ k := by rw [show (256 : Int) = 2 ^ 8 from rfl, ← Int.pow_mul]
  rw [e]; simp [IntKind.wrap, byteAt, IntKind.signed, IntKind.bits]
/-- A string's bytes as whole numbers. -/
def ints (s : ByteArray) : List Int := s.data.toList.map fun b => (b.toNat : Int)
theorem ints_length (s : ByteArray) : (ints s).length = s.size := by simp [ints]
theorem strCells_ints (s : ByteArray) : Lib.strCells s = nums .u8 (ints s) := by simp [Lib.strCells, nums, ints]
end Go.Proofs.Ytadcpdpcpecooaa.Pk
