/- event.put, event.Encode. -/
import Derived.Test.YtadcpdpcpecooaaE2
import Derived.Test.YtadcpdpcpecooaaE7
namespace Go.Proofs.Ytadcpdpcpecooaa.Ev
open Go.RowKit Go.Proofs.Ytadcpdpcpecooaa.Pk Go.Proofs.Ytadcpdpcpecooaa.Re

/-- Each number fits its bytes. -/
structure Fits (e : E) : Prop where
  kind : 0 ≤ e.kind ∧ e.kind < 256 ^ 1
  day : 0 ≤ e.day ∧ e.day < 256 ^ 4
  key : 0 ≤ e.key ∧ e.key < 256 ^ 4
  loan : 0 ≤ e.loan ∧ e.loan < 256 ^ 2
  amount : 0 ≤ e.amount ∧ e.amount < 256 ^ 8
  rate : 0 ≤ bitsN e.rate ∧ bitsN e.rate < 256 ^ 8
  income : 0 ≤ bitsN e.income ∧ bitsN e.income < 256 ^ 8
  sub : 0 ≤ flagI e.sub ∧ flagI e.sub < 256 ^ 1
  status : 0 ≤ e.status ∧ e.status < 256 ^ 1
  plan : 0 ≤ e.plan ∧ e.plan < 256 ^ 1
  family : 0 ≤ e.family ∧ e.family < 256 ^ 1
def bytesE (e : E) : List Int := bytesOf (e.kind) 1 ++ bytesOf (e.day) 4 ++ bytesOf (e.key) 4 ++ bytesOf (e.loan) 2 ++ bytesOf (e.amount) 8 ++ bytesOf (bitsN e.rate) 8 ++ bytesOf (bitsN e.income) 8 ++ bytesOf (flagI e.sub) 1 ++ bytesOf (e.status) 1 ++ bytesOf (e.plan) 1 ++ bytesOf (e.family) 1
theorem pow_le8 (n : Nat) (h : n ≤ 8) : (256 : Int) ^ n ≤ 18446744073709551616 := by
  have : n = 0 ∨ n = 1 ∨ n = 2 ∨ n = 3 ∨ n = 4 ∨ n = 5 ∨ n = 6 ∨ n = 7 ∨ n = 8 := by omega
  rcases this with rfl | rfl | rfl | rfl | rfl | rfl | rfl | rfl | rfl <;> decide
theorem u64_fit {v : Int} {n : Nat} (h : 0 ≤ v ∧ v < 256 ^ n) (hn : n ≤ 8) : IntKind.u64.wrap v = v := by
  have h1 := pow_le8 n hn
  rw [IntKind.wrap_u64]
  omega
theorem num_fit (base g : Nat) (vb : Value) (l : List Int) (V : Int) (n : Nat) (w : World) (hp : PkAt 55 5 w base g vb l 0) (hbase : base ≤ w.heap.size) (hn : szB (n : Int) = true) (hV : 0 ≤ V ∧ V < 256 ^ n) (hn8 : n ≤ 8) (hl : l.length ≤ 1000) :
    Calls Try.prog 25 #[.pointer (some ⟨g, 0, none⟩), .int .u64 V, .int .i64 (n : Int)] w fun e w' => e = .returned (.tuple #[]) ∧ ∃ vb', PkAt 55 5 w' base g vb' (l ++ bytesOf V n) 0 ∧ Fr w w' base g vb vb' := by
  have h64 : V < 18446744073709551616 := by
    have h1 := pow_le8 n hn8
    omega
  refine (Num_calls base g vb l 0 V n w hp hbase hV.1 h64 (fun _ => by omega)).mono ?_
  rintro e w' ⟨rfl, vb', h1, h2⟩
  have e1 : numStep l 0 V n = (l ++ bytesOf V n, 0) := by
    unfold numStep
    rw [if_neg (by decide), if_pos ⟨hn, by simpa using hV.2⟩, if_neg (by rw [List.length_append, bytesOf_length]; omega), Int.toNat_natCast]
  rw [e1] at h1
  exact ⟨rfl, vb', h1, h2⟩
/-- A box beside a Packer is as it was. -/
theorem box_same {w w1 : World} {base g b : Nat} {vb vb1 : Value} {e : E} (hF : Fr w w1 base g vb vb1) (hb : Blk w b 25 e.cells) (hg : b ≠ g) (ho : vb.ownBlock ≠ some b) : Blk w1 b 25 e.cells :=
  hb.same (hF.same b hb.lt hg ho)
set_option maxRecDepth 20000 in
set_option maxHeartbeats 8000000 in
theorem put_calls (base g : Nat) (vb : Value) (l : List Int) (e : E) (w : World) (hp : PkAt 55 5 w base g vb l 0) (hbase : base ≤ w.heap.size) (hl : l.length ≤ 900) (hf : Fits e) :
    Calls Try.prog 27 #[.pointer (some ⟨g, 0, none⟩), e.v] w fun r w' => r = .returned (.tuple #[]) ∧ ∃ vb', PkAt 55 5 w' base g vb' (l ++ bytesE e) 0 ∧ Fr w w' base g vb vb' := by
  have hbx := Blk.new w 25 e.cells
  have hgl := hp.blk.lt
  have hbel := (Below.refl w.heap.size w).alloc (Nat.le_refl _) (.cells e.cells 25)
  have hown : vb.ownBlock ≠ some w.heap.size := fun h => by
    have := (hp.row.lt _ h).2
    omega
  have HF0 := Lib.hid (Fr.of_below (v := vb) (g := g) hbel hbase)
  have HP0 := Lib.hid (hp.below hbel)
  have HBx := Lib.hid hbx
  have HS0 : Hid (base ≤ (w.alloc (.cells e.cells 25)).heap.size) := Lib.hid (by rw [show (w.alloc (.cells e.cells 25)).heap.size = w.heap.size + 1 by simp]; omega)
  have hne : w.heap.size ≠ g := by omega
  have HBits := Lib.hid (fun x W => bits_calls x W)
  have HFlag := Lib.hid (fun b W => number_calls b W)
  have Hfit := Lib.hid hf
  clear hbx hbel hp hf
  go_enter Try.func27, Try.ntmps27
  go_upto_region 1 with fail
  generalize w.alloc (.cells e.cells 25) = W0 at *
  have HG0 := Lib.hid (Fr.refl W0 base g vb)
  have HL0 : Hid (l.length ≤ 900) := Lib.hid hl
  clear hl hgl hbase
  obtain ⟨k0, k1, k2, k3, k4, k5, k6, k7, k8, k9, k10⟩ := bx_of (box_same HG0.out HBx.out hne hown)
  have hu : IntKind.u64.wrap (e.kind) = e.kind := u64_fit (n := 1) Hfit.out.kind (by decide)
  go_wp2_with fail
  refine (num_fit base g vb (l) (e.kind) 1 W0 HP0.out HS0.out (by decide) Hfit.out.kind (by decide) (by have := HL0.out; (try simp only [List.length_append, bytesOf_length]); omega)).mono ?_
  rintro r w1 ⟨rfl, vb1, hp, hfr⟩
  have HP1 := Lib.hid hp
  have HS1 := Lib.hid (Nat.le_trans HS0.out hfr.below.size)
  have HG1 := Lib.hid (HG0.out.trans hfr)
  clear hp hfr k0 k1 k2 k3 k4 k5 k6 k7 k8 k9 k10 hu HP0 HS0 HG0
  obtain ⟨k0, k1, k2, k3, k4, k5, k6, k7, k8, k9, k10⟩ := bx_of (box_same HG1.out HBx.out hne hown)
  have hu : IntKind.u64.wrap (e.day) = e.day := u64_fit (n := 4) Hfit.out.day (by decide)
  go_wp2_with fail
  refine (num_fit base g vb1 (l ++ bytesOf (e.kind) 1) (e.day) 4 w1 HP1.out HS1.out (by decide) Hfit.out.day (by decide) (by have := HL0.out; (try simp only [List.length_append, bytesOf_length]); omega)).mono ?_
  rintro r w2 ⟨rfl, vb2, hp, hfr⟩
  have HP2 := Lib.hid hp
  have HS2 := Lib.hid (Nat.le_trans HS1.out hfr.below.size)
  have HG2 := Lib.hid (HG1.out.trans hfr)
  clear hp hfr k0 k1 k2 k3 k4 k5 k6 k7 k8 k9 k10 hu HP1 HS1 HG1
  obtain ⟨k0, k1, k2, k3, k4, k5, k6, k7, k8, k9, k10⟩ := bx_of (box_same HG2.out HBx.out hne hown)
  have hu : IntKind.u64.wrap (e.key) = e.key := u64_fit (n := 4) Hfit.out.key (by decide)
  go_wp2_with fail
  refine (num_fit base g vb2 (l ++ bytesOf (e.kind) 1 ++ bytesOf (e.day) 4) (e.key) 4 w2 HP2.out HS2.out (by decide) Hfit.out.key (by decide) (by have := HL0.out; (try simp only [List.length_append, bytesOf_length]); omega)).mono ?_
  rintro r w3 ⟨rfl, vb3, hp, hfr⟩
  have HP3 := Lib.hid hp
  have HS3 := Lib.hid (Nat.le_trans HS2.out hfr.below.size)
  have HG3 := Lib.hid (HG2.out.trans hfr)
  clear hp hfr k0 k1 k2 k3 k4 k5 k6 k7 k8 k9 k10 hu HP2 HS2 HG2
  obtain ⟨k0, k1, k2, k3, k4, k5, k6, k7, k8, k9, k10⟩ := bx_of (box_same HG3.out HBx.out hne hown)
  have hu : IntKind.u64.wrap (e.loan) = e.loan := u64_fit (n := 2) Hfit.out.loan (by decide)
  go_wp2_with fail
  refine (num_fit base g vb3 (l ++ bytesOf (e.kind) 1 ++ bytesOf (e.day) 4 ++ bytesOf (e.key) 4) (e.loan) 2 w3 HP3.out HS3.out (by decide) Hfit.out.loan (by decide) (by have := HL0.out; (try simp only [List.length_append, bytesOf_length]); omega)).mono ?_
  rintro r w4 ⟨rfl, vb4, hp, hfr⟩
  have HP4 := Lib.hid hp
  have HS4 := Lib.hid (Nat.le_trans HS3.out hfr.below.size)
  have HG4 := Lib.hid (HG3.out.trans hfr)
  clear hp hfr k0 k1 k2 k3 k4 k5 k6 k7 k8 k9 k10 hu HP3 HS3 HG3
  obtain ⟨k0, k1, k2, k3, k4, k5, k6, k7, k8, k9, k10⟩ := bx_of (box_same HG4.out HBx.out hne hown)
  have hu : IntKind.u64.wrap (e.amount) = e.amount := u64_fit (n := 8) Hfit.out.amount (by decide)
  go_wp2_with fail
  refine (num_fit base g vb4 (l ++ bytesOf (e.kind) 1 ++ bytesOf (e.day) 4 ++ bytesOf (e.key) 4 ++ bytesOf (e.loan) 2) (e.amount) 8 w4 HP4.out HS4.out (by decide) Hfit.out.amount (by decide) (by have := HL0.out; (try simp only [List.length_append, bytesOf_length]); omega)).mono ?_
  rintro r w5 ⟨rfl, vb5, hp, hfr⟩
  have HP5 := Lib.hid hp
  have HS5 := Lib.hid (Nat.le_trans HS4.out hfr.below.size)
  have HG5 := Lib.hid (HG4.out.trans hfr)
  clear hp hfr k0 k1 k2 k3 k4 k5 k6 k7 k8 k9 k10 hu HP4 HS4 HG4
  obtain ⟨k0, k1, k2, k3, k4, k5, k6, k7, k8, k9, k10⟩ := bx_of (box_same HG5.out HBx.out hne hown)
  go_wp2_with fail
  refine (HBits.out _ _).mono ?_
  rintro r wq ⟨rfl, hwq⟩
  have hwq2 := hwq.symm
  clear hwq
  subst hwq2
  go_wp2_with fail
  refine (num_fit base g vb5 (l ++ bytesOf (e.kind) 1 ++ bytesOf (e.day) 4 ++ bytesOf (e.key) 4 ++ bytesOf (e.loan) 2 ++ bytesOf (e.amount) 8) (bitsN e.rate) 8 w5 HP5.out HS5.out (by decide) Hfit.out.rate (by decide) (by have := HL0.out; (try simp only [List.length_append, bytesOf_length]); omega)).mono ?_
  rintro r w6 ⟨rfl, vb6, hp, hfr⟩
  have HP6 := Lib.hid hp
  have HS6 := Lib.hid (Nat.le_trans HS5.out hfr.below.size)
  have HG6 := Lib.hid (HG5.out.trans hfr)
  clear hp hfr k0 k1 k2 k3 k4 k5 k6 k7 k8 k9 k10 HP5 HS5 HG5
  obtain ⟨k0, k1, k2, k3, k4, k5, k6, k7, k8, k9, k10⟩ := bx_of (box_same HG6.out HBx.out hne hown)
  go_wp2_with fail
  refine (HBits.out _ _).mono ?_
  rintro r wq ⟨rfl, hwq⟩
  have hwq2 := hwq.symm
  clear hwq
  subst hwq2
  go_wp2_with fail
  refine (num_fit base g vb6 (l ++ bytesOf (e.kind) 1 ++ bytesOf (e.day) 4 ++ bytesOf (e.key) 4 ++ bytesOf (e.loan) 2 ++ bytesOf (e.amount) 8 ++ bytesOf (bitsN e.rate) 8) (bitsN e.income) 8 w6 HP6.out HS6.out (by decide) Hfit.out.income (by decide) (by have := HL0.out; (try simp only [List.length_append, bytesOf_length]); omega)).mono ?_
  rintro r w7 ⟨rfl, vb7, hp, hfr⟩
  have HP7 := Lib.hid hp
  have HS7 := Lib.hid (Nat.le_trans HS6.out hfr.below.size)
  have HG7 := Lib.hid (HG6.out.trans hfr)
  clear hp hfr k0 k1 k2 k3 k4 k5 k6 k7 k8 k9 k10 HP6 HS6 HG6
  obtain ⟨k0, k1, k2, k3, k4, k5, k6, k7, k8, k9, k10⟩ := bx_of (box_same HG7.out HBx.out hne hown)
  go_wp2_with fail
  refine (HFlag.out _ _).mono ?_
  rintro r wq ⟨rfl, hwq⟩
  have hwq2 := hwq.symm
  clear hwq
  subst hwq2
  go_wp2_with fail
  refine (num_fit base g vb7 (l ++ bytesOf (e.kind) 1 ++ bytesOf (e.day) 4 ++ bytesOf (e.key) 4 ++ bytesOf (e.loan) 2 ++ bytesOf (e.amount) 8 ++ bytesOf (bitsN e.rate) 8 ++ bytesOf (bitsN e.income) 8) (flagI e.sub) 1 w7 HP7.out HS7.out (by decide) Hfit.out.sub (by decide) (by have := HL0.out; (try simp only [List.length_append, bytesOf_length]); omega)).mono ?_
  rintro r w8 ⟨rfl, vb8, hp, hfr⟩
  have HP8 := Lib.hid hp
  have HS8 := Lib.hid (Nat.le_trans HS7.out hfr.below.size)
  have HG8 := Lib.hid (HG7.out.trans hfr)
  clear hp hfr k0 k1 k2 k3 k4 k5 k6 k7 k8 k9 k10 HP7 HS7 HG7
  obtain ⟨k0, k1, k2, k3, k4, k5, k6, k7, k8, k9, k10⟩ := bx_of (box_same HG8.out HBx.out hne hown)
  have hu : IntKind.u64.wrap (e.status) = e.status := u64_fit (n := 1) Hfit.out.status (by decide)
  go_wp2_with fail
  refine (num_fit base g vb8 (l ++ bytesOf (e.kind) 1 ++ bytesOf (e.day) 4 ++ bytesOf (e.key) 4 ++ bytesOf (e.loan) 2 ++ bytesOf (e.amount) 8 ++ bytesOf (bitsN e.rate) 8 ++ bytesOf (bitsN e.income) 8 ++ bytesOf (flagI e.sub) 1) (e.status) 1 w8 HP8.out HS8.out (by decide) Hfit.out.status (by decide) (by have := HL0.out; (try simp only [List.length_append, bytesOf_length]); omega)).mono ?_
  rintro r w9 ⟨rfl, vb9, hp, hfr⟩
  have HP9 := Lib.hid hp
  have HS9 := Lib.hid (Nat.le_trans HS8.out hfr.below.size)
  have HG9 := Lib.hid (HG8.out.trans hfr)
  clear hp hfr k0 k1 k2 k3 k4 k5 k6 k7 k8 k9 k10 hu HP8 HS8 HG8
  obtain ⟨k0, k1, k2, k3, k4, k5, k6, k7, k8, k9, k10⟩ := bx_of (box_same HG9.out HBx.out hne hown)
  have hu : IntKind.u64.wrap (e.plan) = e.plan := u64_fit (n := 1) Hfit.out.plan (by decide)
  go_wp2_with fail
  refine (num_fit base g vb9 (l ++ bytesOf (e.kind) 1 ++ bytesOf (e.day) 4 ++ bytesOf (e.key) 4 ++ bytesOf (e.loan) 2 ++ bytesOf (e.amount) 8 ++ bytesOf (bitsN e.rate) 8 ++ bytesOf (bitsN e.income) 8 ++ bytesOf (flagI e.sub) 1 ++ bytesOf (e.status) 1) (e.plan) 1 w9 HP9.out HS9.out (by decide) Hfit.out.plan (by decide) (by have := HL0.out; (try simp only [List.length_append, bytesOf_length]); omega)).mono ?_
  rintro r w10 ⟨rfl, vb10, hp, hfr⟩
  have HP10 := Lib.hid hp
  have HS10 := Lib.hid (Nat.le_trans HS9.out hfr.below.size)
  have HG10 := Lib.hid (HG9.out.trans hfr)
  clear hp hfr k0 k1 k2 k3 k4 k5 k6 k7 k8 k9 k10 hu HP9 HS9 HG9
  obtain ⟨k0, k1, k2, k3, k4, k5, k6, k7, k8, k9, k10⟩ := bx_of (box_same HG10.out HBx.out hne hown)
  have hu : IntKind.u64.wrap (e.family) = e.family := u64_fit (n := 1) Hfit.out.family (by decide)
  go_wp2_with fail
  refine (num_fit base g vb10 (l ++ bytesOf (e.kind) 1 ++ bytesOf (e.day) 4 ++ bytesOf (e.key) 4 ++ bytesOf (e.loan) 2 ++ bytesOf (e.amount) 8 ++ bytesOf (bitsN e.rate) 8 ++ bytesOf (bitsN e.income) 8 ++ bytesOf (flagI e.sub) 1 ++ bytesOf (e.status) 1 ++ bytesOf (e.plan) 1) (e.family) 1 w10 HP10.out HS10.out (by decide) Hfit.out.family (by decide) (by have := HL0.out; (try simp only [List.length_append, bytesOf_length]); omega)).mono ?_
  rintro r w11 ⟨rfl, vb11, hp, hfr⟩
  have HP11 := Lib.hid hp
  have HS11 := Lib.hid (Nat.le_trans HS10.out hfr.below.size)
  have HG11 := Lib.hid (HG10.out.trans hfr)
  clear hp hfr k0 k1 k2 k3 k4 k5 k6 k7 k8 k9 k10 hu HP10 HS10 HG10
  go_wp2_with fail
  go_end0
  refine ⟨rfl, vb11, ?_, HF0.out.trans HG11.out⟩
  have := HP11.out
  unfold bytesE
  simp only [List.append_assoc] at this ⊢
  exact this
end Go.Proofs.Ytadcpdpcpecooaa.Ev
