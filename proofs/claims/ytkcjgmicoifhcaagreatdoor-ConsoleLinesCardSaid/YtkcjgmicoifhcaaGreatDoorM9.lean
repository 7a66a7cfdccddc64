/- Texts joined: C10 C11 C12. -/
import Derived.Test.YtkcjgmicoifhcaaGreatDoorM7
import Derived.Test.YtkcjgmicoifhcaaGreatDoorM8
import Derived.Test.YtkcjgmicoifhcaaGreatDoorM3
import Derived.Deep.RegionWith

/- C10: The statuses; what a letter reads. (Printed by gen_c10.py.) -/
namespace Go.Proofs.YtkcjgmicoifhcaaGreatDoor.Cn
open Go.RowKit Go.Sort Go.Lib Go.Shelf
open Vw (Tab str Blk)
open Ev (E)
attribute [local go_sem ↓] Go.wp_at_zero Go.wp_at_succ

/-- The statuses' names as cells. -/
abbrev stC : Array Value := #[.string ⟨#[]⟩, .string ⟨#[115, 99, 104, 111, 111, 108]⟩, .string ⟨#[103, 114, 97, 99, 101]⟩, .string ⟨#[100, 101, 102, 101, 114, 109, 101, 110, 116]⟩, .string ⟨#[102, 111, 114, 98, 101, 97, 114]⟩, .string ⟨#[114, 101, 112, 97, 121]⟩]
set_option maxRecDepth 20000 in
theorem statuses_calls (w : World) : Calls Tryz.prog 41 #[] w fun e w' => e = .returned (.agg stC) ∧ Below w.heap.size w w' := by
  have HB := Lib.hid ((Below.refl w.heap.size w).alloc (Nat.le_refl _) (.cells stC 72))
  have hA := (Blk.new w 72 stC).heap
  go_enter Tryz.func41, Tryz.ntmps41
  go_wp2_with fail
  (try simp only [Exit.inBlock, Exit.then])
  refine bodyPost_ret (results_cell_row (p := 0) (ty := 72) rfl _ _ w.heap.size 72 _ _ _ rfl hA Tryz.underlying72 rfl (by kernel_rfl)) rfl ?_
  exact ⟨rfl, HB.out⟩
/-- A status's number; 0: there is none. -/
def stN (x : List UInt8) : Int := if x = [115, 99, 104, 111, 111, 108] then 1 else if x = [103, 114, 97, 99, 101] then 2 else if x = [100, 101, 102, 101, 114, 109, 101, 110, 116] then 3 else if x = [102, 111, 114, 98, 101, 97, 114] then 4 else if x = [114, 101, 112, 97, 121] then 5 else 0
theorem st_idx (x : List UInt8) : max (idxOfS [⟨#[]⟩, ⟨#[115, 99, 104, 111, 111, 108]⟩, ⟨#[103, 114, 97, 99, 101]⟩, ⟨#[100, 101, 102, 101, 114, 109, 101, 110, 116]⟩, ⟨#[102, 111, 114, 98, 101, 97, 114]⟩, ⟨#[114, 101, 112, 97, 121]⟩] (str x)) 0 = stN x := by
  have e : ∀ l : List UInt8, ((⟨l.toArray⟩ : ByteArray) = str x) = (x = l) := fun l => by
    apply propext
    constructor
    · intro h
      have := congrArg (fun b : ByteArray => b.data.toList) h
      simpa using this.symm
    · rintro rfl; rfl
  unfold stN idxOfS
  simp only [idxFromS]
  have e0 : ((⟨#[]⟩ : ByteArray) = str x) = (x = []) := e []
  have e1 : ((⟨#[115, 99, 104, 111, 111, 108]⟩ : ByteArray) = str x) = (x = [115, 99, 104, 111, 111, 108]) := e [115, 99, 104, 111, 111, 108]
  have e2 : ((⟨#[103, 114, 97, 99, 101]⟩ : ByteArray) = str x) = (x = [103, 114, 97, 99, 101]) := e [103, 114, 97, 99, 101]
  have e3 : ((⟨#[100, 101, 102, 101, 114, 109, 101, 110, 116]⟩ : ByteArray) = str x) = (x = [100, 101, 102, 101, 114, 109, 101, 110, 116]) := e [100, 101, 102, 101, 114, 109, 101, 110, 116]
  have e4 : ((⟨#[102, 111, 114, 98, 101, 97, 114]⟩ : ByteArray) = str x) = (x = [102, 111, 114, 98, 101, 97, 114]) := e [102, 111, 114, 98, 101, 97, 114]
  have e5 : ((⟨#[114, 101, 112, 97, 121]⟩ : ByteArray) = str x) = (x = [114, 101, 112, 97, 121]) := e [114, 101, 112, 97, 121]
  simp only [e0, e1, e2, e3, e4, e5]
  by_cases h0 : x = []
  · subst h0; rfl
  · rw [if_neg h0]
    by_cases h1 : x = [115, 99, 104, 111, 111, 108]
    · rw [if_pos h1, if_pos h1]; rfl
    · rw [if_neg h1, if_neg h1]
      by_cases h2 : x = [103, 114, 97, 99, 101]
      · rw [if_pos h2, if_pos h2]; rfl
      · rw [if_neg h2, if_neg h2]
        by_cases h3 : x = [100, 101, 102, 101, 114, 109, 101, 110, 116]
        · rw [if_pos h3, if_pos h3]; rfl
        · rw [if_neg h3, if_neg h3]
          by_cases h4 : x = [102, 111, 114, 98, 101, 97, 114]
          · rw [if_pos h4, if_pos h4]; rfl
          · rw [if_neg h4, if_neg h4]
            by_cases h5 : x = [114, 101, 112, 97, 121]
            · rw [if_pos h5, if_pos h5]; rfl
            · rw [if_neg h5, if_neg h5]; rfl
/-- What a letter reads into an event. -/
def getE (f : Nat) (e : E) (x : List UInt8) : E :=
  if f = 108 then { e with loan := max (numP x) 0 } else if f = 97 then { e with amount := max (numP x) 0 } else if f = 114 then { e with rate := realU x } else if f = 117 then { e with sub := max (numP x) 0 == 1 }
  else if f = 115 then { e with status := stN x } else if f = 105 then { e with income := realU x } else { e with family := max (numP x) 0 }
/-- Whether a letter's word is well formed. -/
def getB (f : Nat) (x : List UInt8) : Bool :=
  if f = 108 then numB x else if f = 97 then numB x else if f = 114 then realB x else if f = 117 then numB x && decide (max (numP x) 0 ≤ 1)
  else if f = 115 then decide (0 < stN x) else if f = 105 then realB x else numB x
theorem getE_u (e : E) (x : List UInt8) : getE 117 e x = { e with sub := max (numP x) 0 == 1 } := rfl
theorem getE_s (e : E) (x : List UInt8) : getE 115 e x = { e with status := stN x } := rfl
theorem blk_put {w : World} {g b : Nat} {t : TypeId} {cs : Array Value} (h : Blk w g t cs) (hne : g ≠ b) (i : Nat) (v : Value) : Blk (w.setCell ⟨b, i, none⟩ v) g t cs := ⟨(Below.heap_setCell _ _ _ _ hne).trans h.heap⟩
set_option maxRecDepth 20000 in
set_option maxHeartbeats 8000000 in
theorem get_l (b g ge : Nat) (L : List (List UInt8)) (ok : Bool) (e : E) (hL : Short L) (w : World) (hR : Rd w g L ok) (hE : Blk w ge 25 e.cells) (hne : g < ge) (hG : GlB b w) (_hT : ∀ W, Below b w W → W.cell? ⟨5, 15, none⟩ = some (.int .u8 4)) (hbg : b ≤ g) :
    Calls Tryz.prog 50 #[.pointer (some ⟨g, 0, none⟩), .int .u8 108, .pointer (some ⟨ge, 0, none⟩)] w fun r w' => r = .returned (.tuple #[]) ∧ ∃ e' : E, Rd w' g L.tail (ok && getB 108 (hd L)) ∧ Blk w' ge 25 e'.cells ∧ Fr (fun k => k = g ∨ k = ge) w w' ∧ ((ok && getB 108 (hd L)) = true → e' = getE 108 e (hd L)) := by
  have HN := Lib.hid (num_calls b g L ok hL w hR hG hbg)
  have HEb := Lib.hid hE
  have HNe := Lib.hid hne
  clear hL hR hG _hT hE hne
  go_enter Tryz.func50, Tryz.ntmps50
  go_wp2_with fail
  refine HN.out.mono ?_
  rintro r w1 ⟨rfl, hR1, hF1⟩
  have hE1 := hF1.blk HEb.out (by have := HNe.out; omega)
  have ce : w1.cell? ⟨ge, 3, none⟩ = some (.int .i64 e.loan) := hE1.cell 3
  have cf := hE1.frozen 3
  have HR1 := Lib.hid hR1
  have HF1 := Lib.hid hF1
  have HE1 := Lib.hid hE1
  clear hR1 hF1 hE1
  go_wp2_with fail
  refine bodyPost_end (results_none rfl _ _ _) rfl ?_
  exact ⟨rfl, { e with loan := max (numP (hd L)) 0 }, HR1.out.fr (P := fun k => k = ge) (Fr.set (P := fun k => k = ge) w1 rfl 3 _) (fun k hk => by have := HNe.out; omega), HE1.out.set_ 3 _, (HF1.out.mono fun k hk => .inl hk).trans (Fr.set (P := fun k => k = g ∨ k = ge) w1 (.inr rfl) 3 _), fun _ => rfl⟩
set_option maxRecDepth 20000 in
set_option maxHeartbeats 8000000 in
theorem get_a (b g ge : Nat) (L : List (List UInt8)) (ok : Bool) (e : E) (hL : Short L) (w : World) (hR : Rd w g L ok) (hE : Blk w ge 25 e.cells) (hne : g < ge) (hG : GlB b w) (_hT : ∀ W, Below b w W → W.cell? ⟨5, 15, none⟩ = some (.int .u8 4)) (hbg : b ≤ g) :
    Calls Tryz.prog 50 #[.pointer (some ⟨g, 0, none⟩), .int .u8 97, .pointer (some ⟨ge, 0, none⟩)] w fun r w' => r = .returned (.tuple #[]) ∧ ∃ e' : E, Rd w' g L.tail (ok && getB 97 (hd L)) ∧ Blk w' ge 25 e'.cells ∧ Fr (fun k => k = g ∨ k = ge) w w' ∧ ((ok && getB 97 (hd L)) = true → e' = getE 97 e (hd L)) := by
  have HN := Lib.hid (num_calls b g L ok hL w hR hG hbg)
  have HEb := Lib.hid hE
  have HNe := Lib.hid hne
  clear hL hR hG _hT hE hne
  go_enter Tryz.func50, Tryz.ntmps50
  go_wp2_with fail
  refine HN.out.mono ?_
  rintro r w1 ⟨rfl, hR1, hF1⟩
  have hE1 := hF1.blk HEb.out (by have := HNe.out; omega)
  have ce : w1.cell? ⟨ge, 4, none⟩ = some (.int .i64 e.amount) := hE1.cell 4
  have cf := hE1.frozen 4
  have HR1 := Lib.hid hR1
  have HF1 := Lib.hid hF1
  have HE1 := Lib.hid hE1
  clear hR1 hF1 hE1
  go_wp2_with fail
  refine bodyPost_end (results_none rfl _ _ _) rfl ?_
  exact ⟨rfl, { e with amount := max (numP (hd L)) 0 }, HR1.out.fr (P := fun k => k = ge) (Fr.set (P := fun k => k = ge) w1 rfl 4 _) (fun k hk => by have := HNe.out; omega), HE1.out.set_ 4 _, (HF1.out.mono fun k hk => .inl hk).trans (Fr.set (P := fun k => k = g ∨ k = ge) w1 (.inr rfl) 4 _), fun _ => rfl⟩
set_option maxRecDepth 20000 in
set_option maxHeartbeats 8000000 in
theorem get_f (b g ge : Nat) (L : List (List UInt8)) (ok : Bool) (e : E) (hL : Short L) (w : World) (hR : Rd w g L ok) (hE : Blk w ge 25 e.cells) (hne : g < ge) (hG : GlB b w) (_hT : ∀ W, Below b w W → W.cell? ⟨5, 15, none⟩ = some (.int .u8 4)) (hbg : b ≤ g) :
    Calls Tryz.prog 50 #[.pointer (some ⟨g, 0, none⟩), .int .u8 102, .pointer (some ⟨ge, 0, none⟩)] w fun r w' => r = .returned (.tuple #[]) ∧ ∃ e' : E, Rd w' g L.tail (ok && getB 102 (hd L)) ∧ Blk w' ge 25 e'.cells ∧ Fr (fun k => k = g ∨ k = ge) w w' ∧ ((ok && getB 102 (hd L)) = true → e' = getE 102 e (hd L)) := by
  have HN := Lib.hid (num_calls b g L ok hL w hR hG hbg)
  have HEb := Lib.hid hE
  have HNe := Lib.hid hne
  clear hL hR hG _hT hE hne
  go_enter Tryz.func50, Tryz.ntmps50
  go_wp2_with fail
  refine HN.out.mono ?_
  rintro r w1 ⟨rfl, hR1, hF1⟩
  have hE1 := hF1.blk HEb.out (by have := HNe.out; omega)
  have ce : w1.cell? ⟨ge, 10, none⟩ = some (.int .i64 e.family) := hE1.cell 10
  have cf := hE1.frozen 10
  have HR1 := Lib.hid hR1
  have HF1 := Lib.hid hF1
  have HE1 := Lib.hid hE1
  clear hR1 hF1 hE1
  go_wp2_with fail
  refine bodyPost_end (results_none rfl _ _ _) rfl ?_
  exact ⟨rfl, { e with family := max (numP (hd L)) 0 }, HR1.out.fr (P := fun k => k = ge) (Fr.set (P := fun k => k = ge) w1 rfl 10 _) (fun k hk => by have := HNe.out; omega), HE1.out.set_ 10 _, (HF1.out.mono fun k hk => .inl hk).trans (Fr.set (P := fun k => k = g ∨ k = ge) w1 (.inr rfl) 10 _), fun _ => rfl⟩
set_option maxRecDepth 20000 in
set_option maxHeartbeats 8000000 in
theorem get_r (b g ge : Nat) (L : List (List UInt8)) (ok : Bool) (e : E) (hL : Short L) (w : World) (hR : Rd w g L ok) (hE : Blk w ge 25 e.cells) (hne : g < ge) (hG : GlB b w) (hT : ∀ W, Below b w W → W.cell? ⟨5, 15, none⟩ = some (.int .u8 4)) (hbg : b ≤ g) :
    Calls Tryz.prog 50 #[.pointer (some ⟨g, 0, none⟩), .int .u8 114, .pointer (some ⟨ge, 0, none⟩)] w fun r w' => r = .returned (.tuple #[]) ∧ ∃ e' : E, Rd w' g L.tail (ok && getB 114 (hd L)) ∧ Blk w' ge 25 e'.cells ∧ Fr (fun k => k = g ∨ k = ge) w w' ∧ ((ok && getB 114 (hd L)) = true → e' = getE 114 e (hd L)) := by
  have HN := Lib.hid (real_calls b g L ok hL w hR hG hT hbg)
  have HEb := Lib.hid hE
  have HNe := Lib.hid hne
  clear hL hR hG hT hE hne
  go_enter Tryz.func50, Tryz.ntmps50
  go_wp2_with fail
  refine HN.out.mono ?_
  rintro r w1 ⟨f, rfl, hR1, hF1, hv⟩
  have hE1 := hF1.blk HEb.out (by have := HNe.out; omega)
  have ce : w1.cell? ⟨ge, 5, none⟩ = some (.float .f64 e.rate) := hE1.cell 5
  have cf := hE1.frozen 5
  have HR1 := Lib.hid hR1
  have HF1 := Lib.hid hF1
  have HE1 := Lib.hid hE1
  have HV := Lib.hid hv
  have hst : ∀ (a : Addr) (n : Nat) (W : World), (store a (.float .f64 n)).run Tryz.prog W = match W.cell? a with
      | some _ => if W.frozen? a then .halt (.unsupported (.unsafePointer "a write to bytes that a string shares")) W else .ok () (W.setCell a (.float .f64 n))
      | none => match World.farStore Tryz.prog W a (.float .f64 n) (Mode.plain == Mode.atomic) with | .ok (w', _) => .ok () w' | .error h => .halt h W := fun _ _ _ => rfl
  clear hR1 hF1 hE1 hv
  go_wp2_with fail
  refine bodyPost_end (results_none rfl _ _ _) rfl ?_
  exact ⟨rfl, { e with rate := f }, HR1.out.fr (P := fun k => k = ge) (Fr.set (P := fun k => k = ge) w1 rfl 5 _) (fun k hk => by have := HNe.out; omega), HE1.out.set_ 5 _, (HF1.out.mono fun k hk => .inl hk).trans (Fr.set (P := fun k => k = g ∨ k = ge) w1 (.inr rfl) 5 _), fun h => by rw [HV.out h]; rfl⟩
set_option maxRecDepth 20000 in
set_option maxHeartbeats 8000000 in
theorem get_i (b g ge : Nat) (L : List (List UInt8)) (ok : Bool) (e : E) (hL : Short L) (w : World) (hR : Rd w g L ok) (hE : Blk w ge 25 e.cells) (hne : g < ge) (hG : GlB b w) (hT : ∀ W, Below b w W → W.cell? ⟨5, 15, none⟩ = some (.int .u8 4)) (hbg : b ≤ g) :
    Calls Tryz.prog 50 #[.pointer (some ⟨g, 0, none⟩), .int .u8 105, .pointer (some ⟨ge, 0, none⟩)] w fun r w' => r = .returned (.tuple #[]) ∧ ∃ e' : E, Rd w' g L.tail (ok && getB 105 (hd L)) ∧ Blk w' ge 25 e'.cells ∧ Fr (fun k => k = g ∨ k = ge) w w' ∧ ((ok && getB 105 (hd L)) = true → e' = getE 105 e (hd L)) := by
  have HN := Lib.hid (real_calls b g L ok hL w hR hG hT hbg)
  have HEb := Lib.hid hE
  have HNe := Lib.hid hne
  clear hL hR hG hT hE hne
  go_enter Tryz.func50, Tryz.ntmps50
  go_wp2_with fail
  refine HN.out.mono ?_
  rintro r w1 ⟨f, rfl, hR1, hF1, hv⟩
  have hE1 := hF1.blk HEb.out (by have := HNe.out; omega)
  have ce : w1.cell? ⟨ge, 6, none⟩ = some (.float .f64 e.income) := hE1.cell 6
  have cf := hE1.frozen 6
  have HR1 := Lib.hid hR1
  have HF1 := Lib.hid hF1
  have HE1 := Lib.hid hE1
  have HV := Lib.hid hv
  have hst : ∀ (a : Addr) (n : Nat) (W : World), (store a (.float .f64 n)).run Tryz.prog W = match W.cell? a with
      | some _ => if W.frozen? a then .halt (.unsupported (.unsafePointer "a write to bytes that a string shares")) W else .ok () (W.setCell a (.float .f64 n))
      | none => match World.farStore Tryz.prog W a (.float .f64 n) (Mode.plain == Mode.atomic) with | .ok (w', _) => .ok () w' | .error h => .halt h W := fun _ _ _ => rfl
  clear hR1 hF1 hE1 hv
  go_wp2_with fail
  refine bodyPost_end (results_none rfl _ _ _) rfl ?_
  exact ⟨rfl, { e with income := f }, HR1.out.fr (P := fun k => k = ge) (Fr.set (P := fun k => k = ge) w1 rfl 6 _) (fun k hk => by have := HNe.out; omega), HE1.out.set_ 6 _, (HF1.out.mono fun k hk => .inl hk).trans (Fr.set (P := fun k => k = g ∨ k = ge) w1 (.inr rfl) 6 _), fun h => by rw [HV.out h]; rfl⟩
set_option maxRecDepth 20000 in
set_option maxHeartbeats 8000000 in
theorem get_u (b g ge : Nat) (L : List (List UInt8)) (ok : Bool) (e : E) (hL : Short L) (w : World) (hR : Rd w g L ok) (hE : Blk w ge 25 e.cells) (hne : g < ge) (hG : GlB b w) (_hT : ∀ W, Below b w W → W.cell? ⟨5, 15, none⟩ = some (.int .u8 4)) (hbg : b ≤ g) :
    Calls Tryz.prog 50 #[.pointer (some ⟨g, 0, none⟩), .int .u8 117, .pointer (some ⟨ge, 0, none⟩)] w fun r w' => r = .returned (.tuple #[]) ∧ ∃ e' : E, Rd w' g L.tail (ok && getB 117 (hd L)) ∧ Blk w' ge 25 e'.cells ∧ Fr (fun k => k = g ∨ k = ge) w w' ∧ ((ok && getB 117 (hd L)) = true → e' = getE 117 e (hd L)) := by
  have HN := Lib.hid (num_calls b g L ok hL w hR hG hbg)
  have HEb := Lib.hid hE
  have HNe := Lib.hid hne
  clear hL hR hG _hT hE hne
  go_enter Tryz.func50, Tryz.ntmps50
  go_wp2_with fail
  refine HN.out.mono ?_
  rintro r w1 ⟨rfl, hR1, hF1⟩
  have hE1 := hF1.blk HEb.out (by have := HNe.out; omega)
  have ce : w1.cell? ⟨ge, 7, none⟩ = some (.bool e.sub) := hE1.cell 7
  have cf := hE1.frozen 7
  have HF1 := Lib.hid hF1
  have HE1 := Lib.hid hE1
  obtain ⟨B, hB⟩ : ∃ B, (ok && numB (hd L)) = B := ⟨_, rfl⟩
  have HR1 : Hid (Rd w1 g L.tail B) := Lib.hid (by rw [← hB]; exact hR1)
  have HGB : Hid ((ok && getB 117 (hd L)) = (B && decide (max (numP (hd L)) 0 ≤ 1))) := Lib.hid (by rw [← hB]; simp only [getB]; cases ok <;> simp)
  obtain ⟨S, hS⟩ : ∃ S, (max (numP (hd L)) 0 == 1) = S := ⟨_, rfl⟩
  have HS := Lib.hid hS
  have hm0 : 0 ≤ max (numP (hd L)) 0 := by omega
  generalize hN0 : max (numP (hd L)) 0 = n at *
  have HN0 := Lib.hid hN0
  clear hR1 hF1 hE1 hB hN0
  by_cases q : n ≤ 1
  · have d : decide (n ≤ 1) = true := decide_eq_true q
    cases B with
    | false =>
      have HQ : Hid ((ok && getB 117 (hd L)) = false) := Lib.hid (by rw [HGB.out]; rfl)
      obtain ⟨p, c, hb, _⟩ := HR1.out.lies
      have c1 : w1.cell? ⟨g, 1, none⟩ = some (.bool false) := hb.cell 1
      have f1 := hb.frozen 1
      clear hb
      go_wp2_with fail
      refine bodyPost_end (results_none rfl _ _ _) rfl ?_
      have HR2 := HR1.out.setOk false
      have hne := HNe.out
      have HE2 : Blk (w1.setCell ⟨g, 1, none⟩ (.bool false)) ge 25 e.cells := blk_put HE1.out (by omega) 1 _
      exact ⟨rfl, { e with sub := S }, by rw [HQ.out]; exact HR2.fr (P := fun k => k = ge) (Fr.set (P := fun k => k = ge) _ rfl 7 _) (fun k hk => by omega), HE2.set_ 7 _, ((HF1.out.mono fun k hk => .inl hk).trans (Fr.set (P := fun k => k = g ∨ k = ge) w1 (.inl rfl) 1 _)).trans (Fr.set (P := fun k => k = g ∨ k = ge) _ (.inr rfl) 7 _), fun _ => by rw [getE_u, HN0.out, HS.out]⟩
    | true =>
      have HQ : Hid ((ok && getB 117 (hd L)) = true) := Lib.hid (by rw [HGB.out, d]; rfl)
      obtain ⟨p, c, hb, _⟩ := HR1.out.lies
      have c1 : w1.cell? ⟨g, 1, none⟩ = some (.bool true) := hb.cell 1
      have f1 := hb.frozen 1
      clear hb
      go_wp2_with fail
      refine bodyPost_end (results_none rfl _ _ _) rfl ?_
      have HR2 := HR1.out.setOk true
      have hne := HNe.out
      have HE2 : Blk (w1.setCell ⟨g, 1, none⟩ (.bool true)) ge 25 e.cells := blk_put HE1.out (by omega) 1 _
      exact ⟨rfl, { e with sub := S }, by rw [HQ.out]; exact HR2.fr (P := fun k => k = ge) (Fr.set (P := fun k => k = ge) _ rfl 7 _) (fun k hk => by omega), HE2.set_ 7 _, ((HF1.out.mono fun k hk => .inl hk).trans (Fr.set (P := fun k => k = g ∨ k = ge) w1 (.inl rfl) 1 _)).trans (Fr.set (P := fun k => k = g ∨ k = ge) _ (.inr rfl) 7 _), fun _ => by rw [getE_u, HN0.out, HS.out]⟩
  · have d : decide (n ≤ 1) = false := decide_eq_false q
    cases B with
    | false =>
      have HQ : Hid ((ok && getB 117 (hd L)) = false) := Lib.hid (by rw [HGB.out]; rfl)
      obtain ⟨p, c, hb, _⟩ := HR1.out.lies
      have c1 : w1.cell? ⟨g, 1, none⟩ = some (.bool false) := hb.cell 1
      have f1 := hb.frozen 1
      clear hb
      go_wp2_with fail
      refine bodyPost_end (results_none rfl _ _ _) rfl ?_
      have HR2 := HR1.out.setOk false
      have hne := HNe.out
      have HE2 : Blk (w1.setCell ⟨g, 1, none⟩ (.bool false)) ge 25 e.cells := blk_put HE1.out (by omega) 1 _
      exact ⟨rfl, { e with sub := S }, by rw [HQ.out]; exact HR2.fr (P := fun k => k = ge) (Fr.set (P := fun k => k = ge) _ rfl 7 _) (fun k hk => by omega), HE2.set_ 7 _, ((HF1.out.mono fun k hk => .inl hk).trans (Fr.set (P := fun k => k = g ∨ k = ge) w1 (.inl rfl) 1 _)).trans (Fr.set (P := fun k => k = g ∨ k = ge) _ (.inr rfl) 7 _), fun _ => by rw [getE_u, HN0.out, HS.out]⟩
    | true =>
      have HQ : Hid ((ok && getB 117 (hd L)) = false) := Lib.hid (by rw [HGB.out, d]; rfl)
      obtain ⟨p, c, hb, _⟩ := HR1.out.lies
      have c1 : w1.cell? ⟨g, 1, none⟩ = some (.bool true) := hb.cell 1
      have f1 := hb.frozen 1
      clear hb
      go_wp2_with fail
      refine bodyPost_end (results_none rfl _ _ _) rfl ?_
      have HR2 := HR1.out.setOk false
      have hne := HNe.out
      have HE2 : Blk (w1.setCell ⟨g, 1, none⟩ (.bool false)) ge 25 e.cells := blk_put HE1.out (by omega) 1 _
      exact ⟨rfl, { e with sub := S }, by rw [HQ.out]; exact HR2.fr (P := fun k => k = ge) (Fr.set (P := fun k => k = ge) _ rfl 7 _) (fun k hk => by omega), HE2.set_ 7 _, ((HF1.out.mono fun k hk => .inl hk).trans (Fr.set (P := fun k => k = g ∨ k = ge) w1 (.inl rfl) 1 _)).trans (Fr.set (P := fun k => k = g ∨ k = ge) _ (.inr rfl) 7 _), fun _ => by rw [getE_u, HN0.out, HS.out]⟩
set_option maxRecDepth 20000 in
set_option maxHeartbeats 8000000 in
theorem get_s (b g ge : Nat) (L : List (List UInt8)) (ok : Bool) (e : E) (hL : Short L) (w : World) (hR : Rd w g L ok) (hE : Blk w ge 25 e.cells) (hne : g < ge) (_hG : GlB b w) (_hT : ∀ W, Below b w W → W.cell? ⟨5, 15, none⟩ = some (.int .u8 4)) (_hbg : b ≤ g) :
    Calls Tryz.prog 50 #[.pointer (some ⟨g, 0, none⟩), .int .u8 115, .pointer (some ⟨ge, 0, none⟩)] w fun r w' => r = .returned (.tuple #[]) ∧ ∃ e' : E, Rd w' g L.tail (ok && getB 115 (hd L)) ∧ Blk w' ge 25 e'.cells ∧ Fr (fun k => k = g ∨ k = ge) w w' ∧ ((ok && getB 115 (hd L)) = true → e' = getE 115 e (hd L)) := by
  have HEb := Lib.hid hE
  have HNe := Lib.hid hne
  have HR0 := Lib.hid hR
  have HLs := Lib.hid hL
  clear hL hR _hG _hT hE hne
  go_enter Tryz.func50, Tryz.ntmps50
  go_upto_region 13 with (go_at_call 41; refine (statuses_calls w).mono ?_; rintro r w1 ⟨rfl, hb1⟩; have HB1 := Lib.hid hb1; clear hb1)
  have hal := (Below.refl w1.heap.size w1).alloc (Nat.le_refl _) (.cells stC 72)
  have HB2 := Lib.hid (HB1.out.trans (hal.mono HB1.out.size))
  have HS2 := Lib.hid (Blk.new w1 72 stC)
  have HGs : Hid (w.heap.size ≤ w1.heap.size) := Lib.hid HB1.out.size
  clear hal
  generalize w1.alloc (.cells stC 72) = w2 at *
  obtain ⟨g7, hg7⟩ : ∃ g7, w1.heap.size = g7 := ⟨_, rfl⟩
  rw [hg7] at HS2 HGs
  rw [hg7]
  clear hg7
  have HRd : Hid (Rd w2.drew g L ok) := Lib.hid (HR0.out.below HB2.out.drew)
  have HEd : Hid (Blk w2.drew ge 25 e.cells) := Lib.hid (HEb.out.below HB2.out.drew)
  have HSd : Hid (Blk w2.drew g7 72 stC) := Lib.hid ⟨HS2.out.heap⟩
  have HLt : Hid (g < g7 ∧ ge < g7) := Lib.hid ⟨Nat.lt_of_lt_of_le HR0.out.lt HGs.out, Nat.lt_of_lt_of_le HEb.out.lt HGs.out⟩
  have HN := Lib.hid (next_calls g L ok HLs.out.1 w2.drew HRd.out)
  obtain ⟨n, hn⟩ : ∃ n, stN (hd L) = n := ⟨_, rfl⟩
  have HN0 := Lib.hid hn
  have HIx := Lib.hid (fun W (hF : Fr (fun k => k = g) w2.drew W) => by
    have hS := hF.blk HSd.out (by have := HLt.out; omega)
    have := Tryz.slices_Index_string g7 0 6 6 [⟨#[]⟩, ⟨#[115, 99, 104, 111, 111, 108]⟩, ⟨#[103, 114, 97, 99, 101]⟩, ⟨#[100, 101, 102, 101, 114, 109, 101, 110, 116]⟩, ⟨#[102, 111, 114, 98, 101, 97, 114]⟩, ⟨#[114, 101, 112, 97, 121]⟩] (str (hd L)) W (by decide) (by decide) (fun j hj => by
      have h6 : j = 0 ∨ j = 1 ∨ j = 2 ∨ j = 3 ∨ j = 4 ∨ j = 5 := by simp at hj; omega
      rcases h6 with rfl | rfl | rfl | rfl | rfl | rfl <;> exact hS.cell _)
    exact this)
  have hmax : max (idxOfS [⟨#[]⟩, ⟨#[115, 99, 104, 111, 111, 108]⟩, ⟨#[103, 114, 97, 99, 101]⟩, ⟨#[100, 101, 102, 101, 114, 109, 101, 110, 116]⟩, ⟨#[102, 111, 114, 98, 101, 97, 114]⟩, ⟨#[114, 101, 112, 97, 121]⟩] (str (hd L))) 0 = n := (st_idx (hd L)).trans hn
  clear hn
  go_cut [] from 53 to 60 (fun W => Rd W g L.tail (ok && !L.isEmpty) ∧ Blk W ge 25 ({ e with status := n } : E).cells ∧ Fr (fun k => k = g ∨ k = ge) w W)
  case first =>
    go_region_with (first
      | (go_at_call 23
         refine HN.out.mono ?_
         rintro r w3 ⟨rfl, hR3, hF3⟩
         have HR3 := Lib.hid hR3
         have HF3 := Lib.hid hF3
         have hE3 := hF3.blk HEd.out (by have := HNe.out; omega)
         have HE3 := Lib.hid hE3
         have ce : w3.cell? ⟨ge, 8, none⟩ = some (.int .i64 e.status) := hE3.cell 8
         have cf := hE3.frozen 8
         clear hR3 hE3)
      | (go_at_call 83
         refine (HIx.out _ (by assumption)).mono ?_
         rintro r w4 ⟨rfl, rfl⟩))
    all_goals (go_wp2_with fail)
    all_goals go_meet
    all_goals case rel => exact ⟨HR3.out.fr (P := fun k => k = ge) (Fr.set (P := fun k => k = ge) _ rfl 8 _) (fun k hk => by have := HNe.out; omega), HE3.out.set_ 8 _, ((Fr.of HB2.out.drew).trans (HF3.out.mono fun k hk => .inl hk)).trans (Fr.set (P := fun k => k = g ∨ k = ge) _ (.inr rfl) 8 _)⟩
  case rest =>
    obtain ⟨hR5, hE5, hF5⟩ := hcut
    have HR5 := Lib.hid hR5
    have HE5 := Lib.hid hE5
    have HF5 := Lib.hid hF5
    clear hR5 hE5 hF5
    generalize wc = w5 at *
    obtain ⟨B, hB⟩ : ∃ B, (ok && !L.isEmpty) = B := ⟨_, rfl⟩
    have HR5 : Hid (Rd w5 g L.tail B) := Lib.hid (by rw [← hB]; exact HR5.out)
    have HGB : Hid ((ok && getB 115 (hd L)) = (B && decide (0 < n))) := Lib.hid (by
      rw [← hB, ← HN0.out]
      cases L with
      | nil =>
        have e1 : getB 115 (hd []) = false := by decide
        rw [e1]; simp
      | cons x r => simp [getB])
    clear hB
    by_cases q : 0 < n
    · have d : decide (0 < n) = true := decide_eq_true q
      cases B with
      | false =>
        have HQ : Hid ((ok && getB 115 (hd L)) = false) := Lib.hid (by rw [HGB.out]; rfl)
        obtain ⟨p, c, hb, _⟩ := HR5.out.lies
        have c1 : w5.cell? ⟨g, 1, none⟩ = some (.bool false) := hb.cell 1
        have f1 := hb.frozen 1
        have c8 : w5.cell? ⟨ge, 8, none⟩ = some (.int .i64 n) := HE5.out.cell 8
        clear hb
        go_wp2_with fail
        refine bodyPost_end (results_none rfl _ _ _) rfl ?_
        first
          | exact ⟨rfl, { e with status := n }, by rw [HQ.out]; exact HR5.out.setOk false, blk_put HE5.out (by have := HNe.out; omega) 1 _, HF5.out.trans (Fr.set (P := fun k => k = g ∨ k = ge) w5 (.inl rfl) 1 _), fun _ => by rw [getE_s, HN0.out]⟩
          | exact ⟨rfl, by rw [HQ.out]; exact HR5.out.setOk false, { e with status := n }, blk_put HE5.out (by have := HNe.out; omega) 1 _, HF5.out.trans (Fr.set (P := fun k => k = g ∨ k = ge) w5 (.inl rfl) 1 _), fun _ _ => by rw [getE_s, HN0.out]⟩
      | true =>
        have HQ : Hid ((ok && getB 115 (hd L)) = true) := Lib.hid (by rw [HGB.out, d]; rfl)
        obtain ⟨p, c, hb, _⟩ := HR5.out.lies
        have c1 : w5.cell? ⟨g, 1, none⟩ = some (.bool true) := hb.cell 1
        have f1 := hb.frozen 1
        have c8 : w5.cell? ⟨ge, 8, none⟩ = some (.int .i64 n) := HE5.out.cell 8
        clear hb
        go_wp2_with fail
        refine bodyPost_end (results_none rfl _ _ _) rfl ?_
        first
          | exact ⟨rfl, { e with status := n }, by rw [HQ.out]; exact HR5.out.setOk true, blk_put HE5.out (by have := HNe.out; omega) 1 _, HF5.out.trans (Fr.set (P := fun k => k = g ∨ k = ge) w5 (.inl rfl) 1 _), fun _ => by rw [getE_s, HN0.out]⟩
          | exact ⟨rfl, by rw [HQ.out]; exact HR5.out.setOk true, { e with status := n }, blk_put HE5.out (by have := HNe.out; omega) 1 _, HF5.out.trans (Fr.set (P := fun k => k = g ∨ k = ge) w5 (.inl rfl) 1 _), fun _ _ => by rw [getE_s, HN0.out]⟩
    · have d : decide (0 < n) = false := decide_eq_false q
      cases B with
      | false =>
        have HQ : Hid ((ok && getB 115 (hd L)) = false) := Lib.hid (by rw [HGB.out]; rfl)
        obtain ⟨p, c, hb, _⟩ := HR5.out.lies
        have c1 : w5.cell? ⟨g, 1, none⟩ = some (.bool false) := hb.cell 1
        have f1 := hb.frozen 1
        have c8 : w5.cell? ⟨ge, 8, none⟩ = some (.int .i64 n) := HE5.out.cell 8
        clear hb
        go_wp2_with fail
        refine bodyPost_end (results_none rfl _ _ _) rfl ?_
        first
          | exact ⟨rfl, { e with status := n }, by rw [HQ.out]; exact HR5.out.setOk false, blk_put HE5.out (by have := HNe.out; omega) 1 _, HF5.out.trans (Fr.set (P := fun k => k = g ∨ k = ge) w5 (.inl rfl) 1 _), fun _ => by rw [getE_s, HN0.out]⟩
          | exact ⟨rfl, by rw [HQ.out]; exact HR5.out.setOk false, { e with status := n }, blk_put HE5.out (by have := HNe.out; omega) 1 _, HF5.out.trans (Fr.set (P := fun k => k = g ∨ k = ge) w5 (.inl rfl) 1 _), fun _ _ => by rw [getE_s, HN0.out]⟩
      | true =>
        have HQ : Hid ((ok && getB 115 (hd L)) = false) := Lib.hid (by rw [HGB.out, d]; rfl)
        obtain ⟨p, c, hb, _⟩ := HR5.out.lies
        have c1 : w5.cell? ⟨g, 1, none⟩ = some (.bool true) := hb.cell 1
        have f1 := hb.frozen 1
        have c8 : w5.cell? ⟨ge, 8, none⟩ = some (.int .i64 n) := HE5.out.cell 8
        clear hb
        go_wp2_with fail
        refine bodyPost_end (results_none rfl _ _ _) rfl ?_
        first
          | exact ⟨rfl, { e with status := n }, by rw [HQ.out]; exact HR5.out.setOk false, blk_put HE5.out (by have := HNe.out; omega) 1 _, HF5.out.trans (Fr.set (P := fun k => k = g ∨ k = ge) w5 (.inl rfl) 1 _), fun _ => by rw [getE_s, HN0.out]⟩
          | exact ⟨rfl, by rw [HQ.out]; exact HR5.out.setOk false, { e with status := n }, blk_put HE5.out (by have := HNe.out; omega) 1 _, HF5.out.trans (Fr.set (P := fun k => k = g ∨ k = ge) w5 (.inl rfl) 1 _), fun _ _ => by rw [getE_s, HN0.out]⟩
end Go.Proofs.YtkcjgmicoifhcaaGreatDoor.Cn

/- C11: The forms searched. (Printed by gen_c11.py.) -/
namespace Go.Proofs.YtkcjgmicoifhcaaGreatDoor.Cn
open Go.RowKit Go.Sort Go.Lib Go.Shelf
open Vw (Tab str Blk)
open Ev (E)
attribute [local go_sem ↓] Go.wp_at_zero Go.wp_at_succ

abbrev Fm.v (f : Fm) : Value := .agg f.cells
/-- The place of the first form of a kind, or -1. -/
def fIdx (p : Fm → Bool) (k : Nat) : List Fm → Int
  | [] => -1
  | f :: r => if p f then (k : Int) else fIdx p (k + 1) r
/-- Does a text begin with a form's words and a blank? -/
def headB (rest : List UInt8) (f : Fm) : Bool := Lib.hasPrefix rest (f.words ++ [32])
theorem words_short (f : Fm) (h : f ∈ forms) : f.words.length ≤ 100 := by
  simp [forms] at h
  rcases h with rfl | rfl | rfl | rfl | rfl | rfl | rfl | rfl | rfl | rfl | rfl <;> decide
set_option maxRecDepth 20000 in
theorem pre_calls (f : Fm) (hf : f ∈ forms) (gr : Nat) (rest : List UInt8) (w : World) (hr : w.cell? ⟨gr, 0, none⟩ = some (.string (str rest))) :
    Calls Tryz.prog 48 #[f.v, .pointer (some ⟨gr, 0, none⟩)] w fun e w' => e = .returned (.bool (headB rest f)) ∧ Below w.heap.size w w' := by
  have hal := (Below.refl w.heap.size w).alloc (Nat.le_refl _) (.cells f.cells 48)
  have hr1 := cell_below hr hal
  have HX := Lib.hid (Blk.new w 48 f.cells)
  have HB := Lib.hid hal
  have hws := words_short f hf
  have hadd := fun W => Vw.add_run f.words [32] (by simp; omega) W
  have HP := Lib.hid (fun W => Tryz.strings_HasPrefix (str rest) (str (f.words ++ [32])) W)
  clear hal hr hf
  go_enter Tryz.func48, Tryz.ntmps48
  go_upto_region 1 with fail
  generalize w.alloc (.cells f.cells 48) = w1 at *
  have c0 : w1.cell? ⟨w.heap.size, 0, none⟩ = some (.string (str f.words)) := HX.out.cell 0
  go_wp2_with fail
  refine (HP.out _).mono ?_
  rintro e w2 ⟨rfl, rfl⟩
  go_wp2_with fail
  go_ret
  exact ⟨rfl, HB.out⟩
set_option maxRecDepth 20000 in
set_option maxHeartbeats 8000000 in
theorem idx_48 (ptr : Value) (p : Fm → Bool) (w : World) (hG : Gl w) (hP : ∀ (f : Fm) W, f ∈ forms → Below w.heap.size w W → Calls Tryz.prog 48 #[f.v, ptr] W fun e w' => e = .returned (.bool (p f)) ∧ Below W.heap.size W w') :
    Calls Tryz.prog 16 #[.slice (some ⟨0, 0, none⟩) 11 11, .func (.func 48) #[] #[ptr]] w fun e w' => e = .returned (.int .i64 (fIdx p 0 forms)) ∧ Below w.heap.size w w' := by
  have HG := Lib.hid hG
  have HP := Lib.hid hP
  clear hG hP
  go_enter Tryz.func16, Tryz.ntmps16
  go_wp2_with fail
  go_loopw [8] (fun i wr => ∃ k : Nat, k ≤ 11 ∧ i = .int .i64 (k : Int) ∧ fIdx p k (forms.drop k) = fIdx p 0 forms ∧ Below w.heap.size w wr) (fun i _ => 11 - (RowKit.intOf i).toNat)
  case atStart => exact ⟨0, by decide, rfl, rfl, Below.refl _ _⟩
  case round =>
    obtain ⟨k, hk, rfl, hix, hB⟩ := hrel
    have HB := Lib.hid hB
    by_cases h2 : k < 11
    · obtain ⟨f, hf⟩ : ∃ f, forms[k]? = some f := ⟨forms[k]'h2, List.getElem?_eq_getElem h2⟩
      have hd : forms.drop k = f :: forms.drop (k + 1) := by
        obtain ⟨h3, h4⟩ := List.getElem?_eq_some_iff.1 hf
        rw [List.drop_eq_getElem_cons h3, h4]
      rw [hd] at hix
      have hgl := (HG.out.below hB).forms k f hf
      have a0 : wr.cell? ⟨0, k * 4, none⟩ = some (.string (str f.words)) := hgl 0 _ rfl
      have a1 : wr.cell? ⟨0, k * 4 + 1, none⟩ = some (.int .i64 f.kind) := hgl 1 _ rfl
      have a2 : wr.cell? ⟨0, k * 4 + 2, none⟩ = some (.int .i64 f.plan) := hgl 2 _ rfl
      have a3 : wr.cell? ⟨0, k * 4 + 3, none⟩ = some (.string (str f.has)) := hgl 3 _ rfl
      have HPf := Lib.hid (HP.out f wr (List.mem_of_getElem? hf) hB)
      have hk0 : (0 : Int) ≤ (k : Int) := by omega
      have hk1 : (k : Int) < 11 := by omega
      have HIx := Lib.hid hix
      clear hd hgl hf hB hix
      go_wp2_with fail
      refine HPf.out.mono ?_
      rintro e w3 ⟨rfl, hb3⟩
      have HB3 := Lib.hid (HB.out.trans (hb3.mono HB.out.size))
      clear hb3
      rcases Bool.eq_false_or_eq_true (p f) with e1 | e1
      · have HR : Hid (fIdx p 0 forms = (k : Int)) := Lib.hid (by rw [← HIx.out, fIdx, if_pos e1])
        rw [e1]
        go_wp2_with fail
        go_ret
        exact ⟨by rw [HR.out]; rfl, HB3.out⟩
      · have HR : Hid (fIdx p (k + 1) (forms.drop (k + 1)) = fIdx p 0 forms) := Lib.hid (by rw [← HIx.out, fIdx, e1]; rfl)
        rw [e1]
        go_wp2_with fail
        go_roundw
        case rel => exact ⟨k + 1, by omega, by go_num, HR.out, HB3.out⟩
        case measure => simp [RowKit.intOf]; omega
    · have HR : Hid (fIdx p 0 forms = -1) := Lib.hid (by
        rw [← hix, show k = 11 by omega]
        rfl)
      have hk11 : k = 11 := by omega
      subst hk11
      clear hix hB
      go_wp2_with fail
      go_ret
      exact ⟨by rw [HR.out]; rfl, HB.out⟩
set_option maxRecDepth 20000 in
set_option maxHeartbeats 8000000 in
theorem idx_17 (ptr : Value) (p : Fm → Bool) (w : World) (hG : Gl w) (hP : ∀ (f : Fm) W, f ∈ forms → Below w.heap.size w W → Calls Tryz.prog 17 #[f.v, ptr] W fun e w' => e = .returned (.bool (p f)) ∧ Below W.heap.size W w') :
    Calls Tryz.prog 16 #[.slice (some ⟨0, 0, none⟩) 11 11, .func (.func 17) #[] #[ptr]] w fun e w' => e = .returned (.int .i64 (fIdx p 0 forms)) ∧ Below w.heap.size w w' := by
  have HG := Lib.hid hG
  have HP := Lib.hid hP
  clear hG hP
  go_enter Tryz.func16, Tryz.ntmps16
  go_wp2_with fail
  go_loopw [8] (fun i wr => ∃ k : Nat, k ≤ 11 ∧ i = .int .i64 (k : Int) ∧ fIdx p k (forms.drop k) = fIdx p 0 forms ∧ Below w.heap.size w wr) (fun i _ => 11 - (RowKit.intOf i).toNat)
  case atStart => exact ⟨0, by decide, rfl, rfl, Below.refl _ _⟩
  case round =>
    obtain ⟨k, hk, rfl, hix, hB⟩ := hrel
    have HB := Lib.hid hB
    by_cases h2 : k < 11
    · obtain ⟨f, hf⟩ : ∃ f, forms[k]? = some f := ⟨forms[k]'h2, List.getElem?_eq_getElem h2⟩
      have hd : forms.drop k = f :: forms.drop (k + 1) := by
        obtain ⟨h3, h4⟩ := List.getElem?_eq_some_iff.1 hf
        rw [List.drop_eq_getElem_cons h3, h4]
      rw [hd] at hix
      have hgl := (HG.out.below hB).forms k f hf
      have a0 : wr.cell? ⟨0, k * 4, none⟩ = some (.string (str f.words)) := hgl 0 _ rfl
      have a1 : wr.cell? ⟨0, k * 4 + 1, none⟩ = some (.int .i64 f.kind) := hgl 1 _ rfl
      have a2 : wr.cell? ⟨0, k * 4 + 2, none⟩ = some (.int .i64 f.plan) := hgl 2 _ rfl
      have a3 : wr.cell? ⟨0, k * 4 + 3, none⟩ = some (.string (str f.has)) := hgl 3 _ rfl
      have HPf := Lib.hid (HP.out f wr (List.mem_of_getElem? hf) hB)
      have hk0 : (0 : Int) ≤ (k : Int) := by omega
      have hk1 : (k : Int) < 11 := by omega
      have HIx := Lib.hid hix
      clear hd hgl hf hB hix
      go_wp2_with fail
      refine HPf.out.mono ?_
      rintro e w3 ⟨rfl, hb3⟩
      have HB3 := Lib.hid (HB.out.trans (hb3.mono HB.out.size))
      clear hb3
      rcases Bool.eq_false_or_eq_true (p f) with e1 | e1
      · have HR : Hid (fIdx p 0 forms = (k : Int)) := Lib.hid (by rw [← HIx.out, fIdx, if_pos e1])
        rw [e1]
        go_wp2_with fail
        go_ret
        exact ⟨by rw [HR.out]; rfl, HB3.out⟩
      · have HR : Hid (fIdx p (k + 1) (forms.drop (k + 1)) = fIdx p 0 forms) := Lib.hid (by rw [← HIx.out, fIdx, e1]; rfl)
        rw [e1]
        go_wp2_with fail
        go_roundw
        case rel => exact ⟨k + 1, by omega, by go_num, HR.out, HB3.out⟩
        case measure => simp [RowKit.intOf]; omega
    · have HR : Hid (fIdx p 0 forms = -1) := Lib.hid (by
        rw [← hix, show k = 11 by omega]
        rfl)
      have hk11 : k = 11 := by omega
      subst hk11
      clear hix hB
      go_wp2_with fail
      go_ret
      exact ⟨by rw [HR.out]; rfl, HB.out⟩
end Go.Proofs.YtkcjgmicoifhcaaGreatDoor.Cn

/- C12: The reader's events. (Printed by gen_c12.py.) -/
namespace Go.Proofs.YtkcjgmicoifhcaaGreatDoor.Cn
open Go.RowKit Go.Sort Go.Lib Go.Shelf
open Vw (Tab str Blk)
open Ev (E)
attribute [local go_sem ↓] Go.wp_at_zero Go.wp_at_succ

/-- All letters' words read, one behind the other. -/
def getAll : List UInt8 → E → List (List UInt8) → Bool → E × List (List UInt8) × Bool
  | [], e, L, ok => (e, L, ok)
  | c :: r, e, L, ok => getAll r (getE c.toNat e (hd L)) L.tail (ok && getB c.toNat (hd L))
theorem getAll_snoc (c : UInt8) : ∀ (a : List UInt8) (e : E) (L : List (List UInt8)) (ok : Bool), getAll (a ++ [c]) e L ok = (getE c.toNat (getAll a e L ok).1 (hd (getAll a e L ok).2.1), (getAll a e L ok).2.1.tail, (getAll a e L ok).2.2 && getB c.toNat (hd (getAll a e L ok).2.1))
  | [], _e, _L, _ok => rfl
  | _x :: a, _e, _L, _ok => getAll_snoc c a _ _ _
theorem getAll_short : ∀ (a : List UInt8) (e : E) (L : List (List UInt8)) (ok : Bool), Short L → Short (getAll a e L ok).2.1
  | [], _, _, _, h => h
  | _ :: a, _, _, _, h => getAll_short a _ _ _ h.tail
theorem Fr.new {g ge : Nat} {w a b : World} (h1 : Fr (fun k => k = g) w a) (h2 : Fr (fun k => k = g ∨ k = ge) a b) (hge : w.heap.size ≤ ge) : Fr (fun k => k = g) w b :=
  ⟨h1.io.trans h2.io, fun k hk hp => (h2.same k (Nat.lt_of_lt_of_le hk h1.io.size) (fun h => h.elim hp fun h => by omega)).trans (h1.same k hk hp)⟩
theorem get_calls (c : UInt8) (hc : c = 108 ∨ c = 97 ∨ c = 114 ∨ c = 117 ∨ c = 115 ∨ c = 105 ∨ c = 102) (b g ge : Nat) (L : List (List UInt8)) (ok : Bool) (e : E) (hL : Short L) (w : World) (hR : Rd w g L ok) (hE : Blk w ge 25 e.cells) (hne : g < ge) (hG : GlB b w) (hT : ∀ W, Below b w W → W.cell? ⟨5, 15, none⟩ = some (.int .u8 4)) (hbg : b ≤ g) :
    Calls Tryz.prog 50 #[.pointer (some ⟨g, 0, none⟩), .int .u8 (c.toNat : Int), .pointer (some ⟨ge, 0, none⟩)] w fun r w' => r = .returned (.tuple #[]) ∧ ∃ e' : E, Rd w' g L.tail (ok && getB c.toNat (hd L)) ∧ Blk w' ge 25 e'.cells ∧ Fr (fun k => k = g ∨ k = ge) w w' ∧ ((ok && getB c.toNat (hd L)) = true → e' = getE c.toNat e (hd L)) := by
  rcases hc with rfl | rfl | rfl | rfl | rfl | rfl | rfl
  · exact get_l b g ge L ok e hL w hR hE hne hG hT hbg
  · exact get_a b g ge L ok e hL w hR hE hne hG hT hbg
  · exact get_r b g ge L ok e hL w hR hE hne hG hT hbg
  · exact get_u b g ge L ok e hL w hR hE hne hG hT hbg
  · exact get_s b g ge L ok e hL w hR hE hne hG hT hbg
  · exact get_i b g ge L ok e hL w hR hE hne hG hT hbg
  · exact get_f b g ge L ok e hL w hR hE hne hG hT hbg
theorem has_letters (f : Fm) (h : f ∈ forms) : f.has.length ≤ 4 ∧ ∀ c ∈ f.has, c = 108 ∨ c = 97 ∨ c = 114 ∨ c = 117 ∨ c = 115 ∨ c = 105 ∨ c = 102 := by
  simp [forms] at h
  rcases h with rfl | rfl | rfl | rfl | rfl | rfl | rfl | rfl | rfl | rfl | rfl <;> decide
theorem join_len (sep : List UInt8) (m : Nat) : ∀ L : List (List UInt8), (∀ x ∈ L, x.length ≤ m) → (Lib.join L sep).length ≤ L.length * (m + sep.length)
  | [], _ => by simp [Lib.join]
  | [x], h => by have := h x (by simp); simp [Lib.join]; omega
  | x :: y :: r, h => by
    have ih := join_len sep m (y :: r) fun z hz => h z (by simp [hz])
    have := h x (by simp)
    have e : Lib.join (x :: y :: r) sep = x ++ (sep ++ Lib.join (y :: r) sep) := by simp [Lib.join, List.intercalate]
    rw [e]
    simp only [List.length_append, List.length_cons] at ih ⊢
    rw [Nat.add_mul (r.length + 1) 1, Nat.one_mul]
    omega
/-- strings.Join of the words left. -/
theorem join_calls (L : List (List UInt8)) (hL : Short L) (w : World) (g : Nat) (p : Option Addr) (c : Nat) (hw : Ws w g p L c) :
    Calls Tryz.prog 20 #[.slice p L.length c, .string ⟨#[32]⟩] w fun e w' => e = .returned (.string (str (Lib.join L [32]))) ∧ Below w.heap.size w w' := by
  rcases hw.lies with rfl | ⟨b, off, rfl, _, hb, hc⟩
  · exact (Tryz.strings_Join_none p c ⟨#[32]⟩ w).mono fun e w' ⟨h1, h2⟩ => ⟨h1, by subst h2; exact Below.refl _ _⟩
  · have hlen := join_len [32] 1000000 L hL.2
    have hn := hL.1
    have hbig : L.length * (1000000 + [32].length) ≤ 1000000 * 1000001 := Nat.mul_le_mul hn (by decide)
    have e : (L.map str).map (·.data.toList) = L := by
      rw [List.map_map]
      conv => rhs; rw [← List.map_id L]
      rfl
    have := Tryz.strings_Join b off c (L.map str) ⟨#[32]⟩ w (fun j x hj => by
      rw [List.getElem?_map] at hj
      obtain ⟨y, hy, rfl⟩ := Option.map_eq_some_iff.1 hj
      exact hc j y hy) hb (by rw [List.length_map]; omega) (by rw [List.length_map]; exact hw.cap) (by rw [e]; exact Nat.le_trans hlen (Nat.le_trans hbig (by decide)))
    rw [List.length_map, e] at this
    exact this
end Go.Proofs.YtkcjgmicoifhcaaGreatDoor.Cn
