/- A slice of Items that came in, and the walk of fair. -/
import Derived.Test.YthblcoccoffofaaWk
import Derived.Deep.Slices
import Derived.Deep.Fields
import Derived.ChangeSame
namespace Go.Proofs.Ythblcoccoffofaa.Pk
open Go.RowKit

/-- An Item. -/
structure It where
  size : Int
  v : Int
  s : ByteArray
/-- The cells of the Items. -/
def ItIn (w : World) (A : Option Addr) (xs : List It) : Prop :=
  ∀ i (h : i < xs.length), ∃ ad, A = some ad ∧ w.cell? (ad.add (i * 3)) = some (.int .i64 xs[i].size) ∧ w.cell? ⟨(ad.add (i * 3)).block, (ad.add (i * 3)).off + 1, none⟩ = some (.int .u64 xs[i].v) ∧ w.cell? ⟨(ad.add (i * 3)).block, (ad.add (i * 3)).off + 2, none⟩ = some (.string xs[i].s)
theorem ItIn.below {w w1 : World} {A : Option Addr} {xs : List It} (h : ItIn w A xs) (hb : Below w.heap.size w w1) : ItIn w1 A xs := by
  intro i hi
  obtain ⟨ad, rfl, h0, h1, h2⟩ := h i hi
  have k : ∀ {p : Addr} {v : Value}, w.cell? p = some v → w1.cell? p = some v := fun hc => (hb.cell (World.block_lt_of_cell? w _ hc)).trans hc
  exact ⟨ad, rfl, k h0, k h1, k h2⟩

/-- So much text. -/
def lens (xs : List It) : Nat := (xs.map fun x => x.s.size).sum
def fairB (xs : List It) : Bool := decide (∀ x ∈ xs, x.s.size ≤ 130000) && decide (xs.length ≤ 300) && decide (lens xs ≤ 260000)

theorem lens_snoc (xs : List It) (x : It) : lens (xs ++ [x]) = lens xs + x.s.size := by simp [lens]
theorem lens_le (xs : List It) (h : ∀ x ∈ xs, x.s.size ≤ 130000) : lens xs ≤ 130000 * xs.length := by
  induction xs with
  | nil => simp [lens]
  | cons a r ih =>
    have h1 := h a (by simp)
    have h2 := ih fun x hx => h x (by simp [hx])
    have e : lens (a :: r) = a.s.size + lens r := by simp [lens]
    rw [e, List.length_cons]
    omega

set_option maxHeartbeats 1000000 in
theorem fair_calls (A : Option Addr) (cap : Nat) (xs : List It) (w : World) (h : ItIn w A xs) (hl : xs.length ≤ 4398046511104) (hs : ∀ x ∈ xs, x.s.size ≤ maxLen) :
    Calls Try.prog 8 #[.slice A xs.length cap] w fun e w' => e = .returned (.bool (fairB xs)) ∧ w = w' := by
  go_enter Try.func8, Try.ntmps8
  go_wp2_with fail
  go_loop [3, 4] (fun t i => ∃ k : Nat, k ≤ xs.length ∧ i = .int .i64 k ∧ t = .int .i64 (lens (xs.take k)) ∧ ∀ x ∈ xs.take k, x.s.size ≤ 130000) (fun _ i => xs.length - (intOf i).toNat)
  case atStart => exact ⟨0, Nat.zero_le _, rfl, rfl, by simp⟩
  case round =>
    obtain ⟨k, hk, rfl, rfl, ho⟩ := hrel
    have hsum := lens_le _ ho
    rw [List.length_take, Nat.min_eq_left hk] at hsum
    have Ho := Lib.hid ho
    clear ho
    obtain ⟨S, hS⟩ : ∃ S, lens (xs.take k) = S := ⟨_, rfl⟩
    rw [hS] at hsum ⊢
    have HS := Lib.hid hS
    clear hS
    by_cases hlt : k < xs.length
    · obtain ⟨ad, rfl, c0, c1, c2⟩ := h k hlt
      obtain ⟨x, hx⟩ : ∃ x, xs[k] = x := ⟨_, rfl⟩
      rw [hx] at c2
      have hx1 := hs x (by rw [← hx]; exact List.getElem_mem hlt)
      unfold maxLen at hx1
      have Hx := Lib.hid hx
      clear hx c0 c1
      have et : xs.take (k + 1) = xs.take k ++ [x] := by rw [List.take_succ_eq_append_getElem hlt, Hx.out]
      have Et := Lib.hid et
      clear et
      by_cases hx2 : 130000 < x.s.size
      · go_wp2_with fail
        go_ret
        refine ⟨?_, rfl⟩
        have e : fairB xs = false := by
          unfold fairB
          have : ¬ ∀ y ∈ xs, y.s.size ≤ 130000 := fun hh => by
            have := hh x (by rw [← Hx.out]; exact List.getElem_mem hlt)
            omega
          simp only [this, decide_false, Bool.false_and]
        rw [e]; rfl
      · go_wp2_with fail
        go_round
        case rel =>
          refine ⟨k + 1, by omega, by go_num, ?_, ?_⟩
          · rw [Et.out, lens_snoc, HS.out]; go_num
          · rw [Et.out]
            intro y hy
            rw [List.mem_append, List.mem_singleton] at hy
            rcases hy with hy | rfl
            · exact Ho.out y hy
            · omega
        case measure => simp [intOf]; omega
    · have hkn : k = xs.length := by omega
      have Hk := Lib.hid hkn
      have ht : xs.take k = xs := by rw [hkn, List.take_length]
      have Ht := Lib.hid ht
      clear ht hkn
      by_cases h3 : xs.length ≤ 300
      · go_wp2_with fail
        go_ret
        refine ⟨?_, rfl⟩
        have e : fairB xs = decide ((S : Int) ≤ 260000) := by
          unfold fairB
          have h1 : ∀ y ∈ xs, y.s.size ≤ 130000 := by have := Ho.out; rwa [Ht.out] at this
          have h2 : lens xs = S := by rw [← HS.out, Ht.out]
          rw [h2]
          simp only [decide_eq_true h1, decide_eq_true h3, Bool.true_and]
          rw [decide_eq_decide]; omega
        rw [e]; rfl
      · go_wp2_with fail
        go_ret
        refine ⟨?_, rfl⟩
        have e : fairB xs = false := by
          unfold fairB
          simp only [h3, decide_false, Bool.and_false, Bool.false_and]
        rw [e]; rfl
end Go.Proofs.Ythblcoccoffofaa.Pk
