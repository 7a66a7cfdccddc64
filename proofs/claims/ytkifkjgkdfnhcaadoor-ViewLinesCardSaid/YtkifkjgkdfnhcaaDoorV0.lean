/- strconv.FormatUint at base 10 (the shelf's FormatInt text turned to it); texts as lists. -/
import Derived.Test.YtkifkjgkdfnhcaaDoorShelf
import Derived.Lib.AppendIntMem
import Derived.Lib.Hide
import Derived.Lib.QuietBelow
import Derived.RegionTactic
import Derived.WalkLawsBesides
import Derived.WalkSpells
import Derived.Deep.RegionHeld3
import Derived.Deep.DrawnRows
import Derived.Deep.Cut
import Derived.Deep.CutBlock
import Derived.Deep.QuietTactic
import Derived.BigQuiet
import Derived.LoopTactic
import Derived.Outline
namespace Go.Proofs.YtkifkjgkdfnhcaaDoor.Vw
open Go.RowKit Go.Sort Go.Lib Go.Shelf

/-- The table of the library's that a numeral reads. -/
abbrev Tab (w : World) : Prop := Lib.TabIs Tryd.prog w "internal/strconv.uint64pow10" .u64 Lib.pow10Tab
theorem Tab.below {w w1 : World} (h : Tab w) (hb : Below w.heap.size w w1) : Tab w1 := Lib.tabBelow_of_tabIs h w1 hb
/-- A text out of letters. -/
abbrev str (l : List UInt8) : ByteArray := ⟨l.toArray⟩
theorem below_drewN {n : Nat} {w w1 : World} (h : Below n w w1) : ∀ m, Below n w (w1.drewN m)
  | 0 => h
  | m + 1 => by
    have := (below_drewN h m).drew
    exact this
theorem below_grow (w : World) (os : Array Obj) : Below w.heap.size w (grow w os) :=
  ⟨rfl, rfl, rfl, by simp [grow], fun k hk => by simp [grow, Array.getElem?_append, hk]⟩
theorem below_fmt (w : World) (o : Obj) (dk : Array UInt8) (k : Nat) : Below w.heap.size w ((putRow (fun (b : UInt8) => Value.int .u8 (b.toNat : Int)) (w.alloc o) w.heap.size 0 dk).drewN k) := by
  rw [alloc_eq_grow]
  obtain ⟨os', _, e⟩ := putRow_grow_new (fun (b : UInt8) => Value.int .u8 (b.toNat : Int)) w #[o] w.heap.size 0 dk (Nat.le_refl _)
  rw [e]
  exact below_drewN (below_grow w os') k
set_option maxHeartbeats 6400000 in
set_option maxRecDepth 100000 in
theorem fmtU (u : Nat) (hu64 : u < 18446744073709551616) (w : World) (htab : Tab w) :
    Calls Tryd.prog 54 #[.int .u64 u, .int .i64 10] w fun e w' => e = .returned (.string (str (Lib.decDigits u))) ∧ Below w.heap.size w w' := by
  by_cases hs : u < 100
  · have HS := Lib.hid (fun W => Tryd.internal_strconv_small u hs W)
    have h1 : (u : Int) < 100 := by omega
    go_enter Tryd.func54, Tryd.ntmps54
    go_wp2_with (go_at_call 71; refine (HS.out _).mono ?_; rintro e w' ⟨rfl, rfl⟩)
    go_ret
    exact ⟨rfl, Below.refl _ _⟩
  · have hu1 : 1 ≤ u := by omega
    have h1 : ¬ (u : Int) < 100 := by omega
    have hnd20 : Lib.nDigits u ≤ 20 := by have := Lib.numDigits_eq u hu1 hu64; split at this <;> omega
    have hb3 : Lib.nDigits u ≤ 24 := by omega
    have hal : Tryd.prog.arrayLen 105 = 24 := by kernel_rfl
    have hsl1 : ∀ W, (Instr.sliceAt 105 (.pointer (some ⟨w.heap.size, 0, none⟩)) none (some (.int .i64 (Lib.nDigits u : Int))) none).run Tryd.prog W = .ok (.slice (some ⟨w.heap.size, 0, none⟩) (Lib.nDigits u) 24) W := fun W => by
      rw [run_sliceAt_array_h W 105 ⟨w.heap.size, 0, none⟩ (by kernel_rfl) .i64 (Lib.nDigits u : Int) (by omega) (by rw [hal]; omega)]
      go_simp
    have hH0 := Lib.holds_zero0 w 105 (Lib.nDigits u) (by omega)
    have hfmt := Tryd.internal_strconv_formatBase10 w.heap.size 0 24 u (Array.replicate (Lib.nDigits u) 0) (w.alloc (.cells Lib.zeros24 105)) hH0 (by rw [Array.size_replicate]; exact Lib.lt_pow_nDigits u) hu64 (by rw [Array.size_replicate]; omega)
    rw [Array.size_replicate] at hfmt
    have HH0 := Lib.hid hH0
    have HF := Lib.hid hfmt
    have HT := Lib.hid htab
    clear hH0 hal hfmt htab
    go_enter Tryd.func54, Tryd.ntmps54
    go_wp2_with (first
      | (go_at_call 72; refine (Tryd.internal_strconv_numDigits u hu1 hu64 _ (Lib.tabIs_alloc HT.out _)).mono ?_; rintro e w' ⟨rfl, rfl⟩))
    go_at_call 73
    refine HF.out.mono ?_
    rintro e w' ⟨rfl, k, v', dk, rfl, hF⟩
    have hcv : (convert 73 9 (.slice (some ⟨w.heap.size, 0, none⟩) (Lib.nDigits u) 24)).run Tryd.prog ((putRow (fun (b : UInt8) => Value.int .u8 (b.toNat : Int)) (w.alloc (.cells Lib.zeros24 105)) w.heap.size 0 dk).drewN k) = .ok (.string ⟨(Lib.decDigits u).toArray⟩) ((putRow (fun (b : UInt8) => Value.int .u8 (b.toNat : Int)) (w.alloc (.cells Lib.zeros24 105)) w.heap.size 0 dk).drewN k) := by
      have h := run_convert_bytes_back (P := Tryd.prog) ((putRow (fun (b : UInt8) => Value.int .u8 (b.toNat : Int)) (w.alloc (.cells Lib.zeros24 105)) w.heap.size 0 dk).drewN k) 73 9 5 ⟨w.heap.size, 0, none⟩ 24 (Lib.decDigits u) Tryd.underlying73 Tryd.underlying5 Tryd.underlying9 (fun j hj => by
        rw [Lib.row_is_numeral hF j hj, Lib.add_plain, World.cell?_drewN]
        exact cell?_putRow (fun (b : UInt8) => Value.int .u8 (b.toNat : Int)) _ w.heap.size 0 _ dk HH0.out (by rw [hF.size, Array.size_replicate]) j (by rw [hF.size]; rw [Lib.decDigits_length] at hj; exact hj))
      rw [Lib.decDigits_length] at h
      exact h
    have HB := Lib.hid (below_fmt w (.cells Lib.zeros24 105) dk k)
    generalize (putRow (fun (b : UInt8) => Value.int .u8 (b.toNat : Int)) (w.alloc (.cells Lib.zeros24 105)) w.heap.size 0 dk).drewN k = W9 at *
    go_wp2_with fail
    go_ret
    exact ⟨rfl, HB.out⟩
/-- A numeral, noughts ahead: at least so many letters. -/
def pad (u k : Nat) : List UInt8 := List.replicate (k - (Lib.decDigits u).length) 48 ++ Lib.decDigits u
theorem repeat0 (c : Nat) : Lib.repeatL [48] c = List.replicate c 48 := by
  induction c with
  | zero => rfl
  | succ c ih => rw [Lib.repeatL, ih]; rfl
theorem dig_len (u : Nat) (hu64 : u < 18446744073709551616) : 1 ≤ (Lib.decDigits u).length ∧ (Lib.decDigits u).length ≤ 20 := by
  rw [Lib.decDigits_length]
  by_cases h : 1 ≤ u
  · have := Lib.numDigits_eq u h hu64
    constructor
    · by_cases h10 : u < 10
      · rw [Lib.nDigits_small h10]; exact Nat.le_refl _
      · rw [Lib.nDigits_big h10]; exact Nat.le_add_left _ _
    · split at this <;> omega
  · obtain rfl : u = 0 := by omega
    rw [Lib.nDigits_small (by omega)]
    omega
theorem pad_len (u k : Nat) (hu64 : u < 18446744073709551616) (hk : k ≤ 20) : (pad u k).length ≤ 20 := by
  have := dig_len u hu64
  unfold pad
  rw [List.length_append, List.length_replicate]
  omega
set_option maxRecDepth 20000 in
theorem fmtUint (u : Nat) (hu64 : u < 18446744073709551616) (w : World) (htab : Tab w) :
    Calls Tryd.prog 37 #[.int .u64 u, .int .i64 10] w fun e w' => e = .returned (.string (str (Lib.decDigits u))) ∧ Below w.heap.size w w' := by
  have HF := Lib.hid (fmtU u hu64 w htab)
  clear htab
  go_enter Tryd.func37, Tryd.ntmps37
  go_wp2_with fail
  refine HF.out.mono ?_
  rintro e w1 ⟨rfl, hb⟩
  have HB := Lib.hid hb
  clear hb
  go_wp2_with fail
  go_ret
  exact ⟨rfl, HB.out⟩
theorem str_size (l : List UInt8) : (str l).size = l.length := by simp [str, ByteArray.size]
theorem str_add (a b : List UInt8) : str a ++ str b = str (a ++ b) := by
  apply ByteArray.ext
  simp [str, ByteArray.data_append]
theorem add_run (a b : List UInt8) (h : a.length + b.length ≤ 9223372036854775807) (W : World) : (Op.stringOp .add (str a) (str b)).run Tryd.prog W = .ok (.string (str (a ++ b))) W := by
  have h1 := str_size a
  have h2 := str_size b
  rw [← str_add]
  simp [go_sem]
  omega
/-- One behind the other (a name that the walk leaves alone). -/
def cat (a b : List UInt8) : List UInt8 := a ++ b
theorem add_cat (a b : List UInt8) (h : a.length + b.length ≤ 9223372036854775807) (W : World) : (Op.stringOp .add (str a) (str b)).run Tryd.prog W = .ok (.string (str (cat a b))) W := add_run a b h W
theorem cat_len (a b : List UInt8) : (cat a b).length = a.length + b.length := List.length_append
set_option maxRecDepth 20000 in
theorem digits_calls (u k : Nat) (hu64 : u < 18446744073709551616) (hk : k ≤ 20) (w : World) (htab : Tab w) :
    Calls Tryd.prog 20 #[.int .u64 u, .int .i64 k] w fun e w' => e = .returned (.string (str (pad u k))) ∧ Below w.heap.size w w' := by
  have HF := Lib.hid (fmtUint u hu64 w htab)
  obtain ⟨d1, d2⟩ := dig_len u hu64
  have HR := Lib.hid (fun W => Tryd.strings_Repeat (str [48]) (k - (Lib.decDigits u).length) W (by omega) (by simp [str, ByteArray.size]; omega))
  have hadd := add_run (Lib.repeatL [48] (k - (Lib.decDigits u).length)) (Lib.decDigits u) (by rw [repeat0, List.length_replicate]; omega)
  have HP : Hid (Lib.repeatL [48] (k - (Lib.decDigits u).length) ++ Lib.decDigits u = pad u k) := Lib.hid (by rw [repeat0]; rfl)
  rw [HP.out] at hadd
  have hsz := str_size (Lib.decDigits u)
  have hmax : max ((k : Int) - ((Lib.decDigits u).length : Int)) 0 = ((k - (Lib.decDigits u).length : Nat) : Int) := by omega
  generalize Lib.decDigits u = D at *
  clear htab HP
  go_enter Tryd.func20, Tryd.ntmps20
  go_wp2_with fail
  refine HF.out.mono ?_
  rintro e w1 ⟨rfl, hb⟩
  have HB := Lib.hid hb
  clear hb
  go_wp2_with fail
  refine (HR.out _).mono ?_
  rintro e w2 ⟨rfl, hb⟩
  have HB2 := Lib.hid (HB.out.trans (hb.mono HB.out.size))
  clear hb
  go_wp2_with fail
  go_ret
  exact ⟨rfl, HB2.out⟩
end Go.Proofs.YtkifkjgkdfnhcaaDoor.Vw
