/- The reference's bytes, Encode. -/
import Derived.Test.YtadcpdpcpecooaaE6
import Derived.Test.YtadcpdpcpecooaaE9
import Derived.Deep.RegionHeld3
import Derived.StillTailTactics
namespace Go.Proofs.Ytadcpdpcpecooaa.Ev
open Go.RowKit Go.Proofs.Ytadcpdpcpecooaa.Pk Go.Proofs.Ytadcpdpcpecooaa.Re

def sizesL : List Nat := [1, 4, 4, 2, 8, 8, 8, 1, 1, 1, 1]
def numsL (e : E) : List Int := [e.kind, e.day, e.key, e.loan, e.amount, bitsN e.rate, bitsN e.income, flagI e.sub, e.status, e.plan, e.family]
abbrev sizesC : Array Value := #[.int .i64 1, .int .i64 4, .int .i64 4, .int .i64 2, .int .i64 8, .int .i64 8, .int .i64 8, .int .i64 1, .int .i64 1, .int .i64 1, .int .i64 1]
abbrev numsC (e : E) : Array Value := #[.int .u64 e.kind, .int .u64 e.day, .int .u64 e.key, .int .u64 e.loan, .int .u64 e.amount, .int .u64 (bitsN e.rate), .int .u64 (bitsN e.income), .int .u64 (flagI e.sub), .int .u64 e.status, .int .u64 e.plan, .int .u64 e.family]
/-- The bytes of the first numbers. -/
def bK (e : E) (k : Nat) : List Int := (List.range k).flatMap fun j => bytesOf ((numsL e).getD j 0) (sizesL.getD j 0)
theorem bK_succ (e : E) (k : Nat) : bK e (k + 1) = bK e k ++ bytesOf ((numsL e).getD k 0) (sizesL.getD k 0) := by
  unfold bK
  rw [List.range_succ, List.flatMap_append]
  congr 1
  simp
theorem bK_all (e : E) : bK e 11 = bytesE e := by
  unfold bK bytesE
  rw [show List.range 11 = [0, 1, 2, 3, 4, 5, 6, 7, 8, 9, 10] by decide]
  simp only [List.flatMap_cons, List.flatMap_nil, List.append_nil, List.append_assoc]
  rfl
theorem bK_size (e : E) : ∀ k, k ≤ 11 → (bK e k).length ≤ 8 * k
  | 0, _ => by simp [bK]
  | k + 1, h => by
    have h1 := bK_size e k (by omega)
    have h2 : sizesL.getD k 0 ≤ 8 := by
      have : k = 0 ∨ k = 1 ∨ k = 2 ∨ k = 3 ∨ k = 4 ∨ k = 5 ∨ k = 6 ∨ k = 7 ∨ k = 8 ∨ k = 9 ∨ k = 10 := by omega
      rcases this with rfl | rfl | rfl | rfl | rfl | rfl | rfl | rfl | rfl | rfl | rfl <;> decide
    rw [bK_succ, List.length_append, bytesOf_length]
    omega
theorem str_app (a b : List Int) : strOfNums (a ++ b) = strOfNums a ++ strOfNums b := by
  apply ByteArray.ext
  simp [strOfNums, ByteArray.data_append]
theorem nums_at (e : E) (k : Nat) (hk : k < 11) : (numsC e)[k]? = some (.int .u64 ((numsL e).getD k 0)) ∧ sizesC[k]? = some (.int .i64 ((sizesL.getD k 0 : Nat) : Int)) := by
  have : k = 0 ∨ k = 1 ∨ k = 2 ∨ k = 3 ∨ k = 4 ∨ k = 5 ∨ k = 6 ∨ k = 7 ∨ k = 8 ∨ k = 9 ∨ k = 10 := by omega
  rcases this with rfl | rfl | rfl | rfl | rfl | rfl | rfl | rfl | rfl | rfl | rfl <;> exact ⟨rfl, rfl⟩
theorem nums_fit (e : E) (hf : Fits e) (k : Nat) (hk : k < 11) : (0 ≤ (numsL e).getD k 0 ∧ (numsL e).getD k 0 < 18446744073709551616) ∧ sizesL.getD k 0 ≤ 8 := by
  have e8 := pow_le8
  have : k = 0 ∨ k = 1 ∨ k = 2 ∨ k = 3 ∨ k = 4 ∨ k = 5 ∨ k = 6 ∨ k = 7 ∨ k = 8 ∨ k = 9 ∨ k = 10 := by omega
  rcases this with rfl | rfl | rfl | rfl | rfl | rfl | rfl | rfl | rfl | rfl | rfl
  · exact ⟨⟨hf.kind.1, Int.lt_of_lt_of_le hf.kind.2 (e8 1 (by decide))⟩, by decide⟩
  · exact ⟨⟨hf.day.1, Int.lt_of_lt_of_le hf.day.2 (e8 4 (by decide))⟩, by decide⟩
  · exact ⟨⟨hf.key.1, Int.lt_of_lt_of_le hf.key.2 (e8 4 (by decide))⟩, by decide⟩
  · exact ⟨⟨hf.loan.1, Int.lt_of_lt_of_le hf.loan.2 (e8 2 (by decide))⟩, by decide⟩
  · exact ⟨⟨hf.amount.1, Int.lt_of_lt_of_le hf.amount.2 (e8 8 (by decide))⟩, by decide⟩
  · exact ⟨⟨hf.rate.1, Int.lt_of_lt_of_le hf.rate.2 (e8 8 (by decide))⟩, by decide⟩
  · exact ⟨⟨hf.income.1, Int.lt_of_lt_of_le hf.income.2 (e8 8 (by decide))⟩, by decide⟩
  · exact ⟨⟨hf.sub.1, Int.lt_of_lt_of_le hf.sub.2 (e8 1 (by decide))⟩, by decide⟩
  · exact ⟨⟨hf.status.1, Int.lt_of_lt_of_le hf.status.2 (e8 1 (by decide))⟩, by decide⟩
  · exact ⟨⟨hf.plan.1, Int.lt_of_lt_of_le hf.plan.2 (e8 1 (by decide))⟩, by decide⟩
  · exact ⟨⟨hf.family.1, Int.lt_of_lt_of_le hf.family.2 (e8 1 (by decide))⟩, by decide⟩
theorem sizes_calls (w : World) : Calls Try.prog 33 #[] w fun r w' => ∃ g, r = .returned (.slice (some ⟨g, 0, none⟩) 11 11) ∧ w.heap.size ≤ g ∧ Blk w' g 3 sizesC ∧ Below w.heap.size w w' := by
  go_enter Try.func33, Try.ntmps33
  go_wp2_with fail
  go_ret
  exact ⟨_, rfl, Nat.le_refl _, Blk.new _ _ _, (Below.refl _ _).alloc (Nat.le_refl _) _⟩
set_option maxRecDepth 20000 in
set_option maxHeartbeats 4000000 in
theorem rbytes_calls (e : E) (w : World) (hf : Fits e) : Calls Try.prog 29 #[e.v] w fun r w' => r = .returned (.string (encS e)) ∧ Below w.heap.size w w' := by
  have hb := Blk.new w 25 e.cells
  have HB := Lib.hid ((Below.refl w.heap.size w).alloc (Nat.le_refl _) (.cells e.cells 25))
  have HBk := Lib.hid hb
  have u0 : IntKind.u64.wrap e.kind = e.kind := u64_fit hf.kind (by decide)
  have u1 : IntKind.u64.wrap e.day = e.day := u64_fit hf.day (by decide)
  have u2 : IntKind.u64.wrap e.key = e.key := u64_fit hf.key (by decide)
  have u3 : IntKind.u64.wrap e.loan = e.loan := u64_fit hf.loan (by decide)
  have u4 : IntKind.u64.wrap e.amount = e.amount := u64_fit hf.amount (by decide)
  have u8 : IntKind.u64.wrap e.status = e.status := u64_fit hf.status (by decide)
  have u9 : IntKind.u64.wrap e.plan = e.plan := u64_fit hf.plan (by decide)
  have u10 : IntKind.u64.wrap e.family = e.family := u64_fit hf.family (by decide)
  have Hfit := Lib.hid hf
  have HR := Lib.hid (fun W => rbits_calls e.rate W)
  have HI := Lib.hid (fun W => rbits_calls e.income W)
  have HG := Lib.hid (fun W => flag_calls e.sub W)
  obtain ⟨k0, k1, k2, k3, k4, k5, k6, k7, k8, k9, k10⟩ := bx_of hb
  clear hb hf
  go_enter Try.func29, Try.ntmps29
  go_upto_region 1 with fail
  generalize w.alloc (.cells e.cells 25) = W1 at *
  go_still_tail 33, (by kernel_rfl)
  still_call (HR.out _)
  repeat still_step
  still_call (HI.out _)
  repeat still_step
  still_call (HG.out _)
  repeat still_step
  refine wpStill_nil ?_
  change wpList _ _ _ _ _ W1.drew
  have HB2 := Lib.hid (HB.out.drew)
  generalize W1.drew = W2 at HB2 ⊢
  clear k0 k1 k2 k3 k4 k5 k6 k7 k8 k9 k10 u0 u1 u2 u3 u4 u8 u9 u10
  have HN := Lib.hid (Blk.new W2 57 (numsC e))
  have HB3 := Lib.hid (HB2.out.alloc HB2.out.size (.cells (numsC e) 57))
  go_wp2_with fail
  generalize W2.alloc (.cells (numsC e) 57) = W3 at HN HB3 ⊢
  refine (sizes_calls _).mono ?_
  rintro r W4 ⟨g, rfl, hg, hbs, b4⟩
  have HS := Lib.hid hbs
  have HN4 := Lib.hid (HN.out.below b4)
  have HB4 := Lib.hid (HB3.out.trans (b4.mono HB3.out.size))
  clear b4 hbs
  go_wp2_with fail
  have HSg : Hid (W2.heap.size ≠ g) := Lib.hid (by
    have h1 := HN.out.lt
    omega)
  go_loopw [6, 5] (fun i sv wr => ∃ k : Nat, k ≤ 11 ∧ i = .int .i64 (k : Int) ∧ sv = .string (strOfNums (bK e k)) ∧ Below W4.heap.size W4 wr) (fun i _ _ => 11 - (intOf i).toNat)
  case atStart => exact ⟨0, by decide, rfl, rfl, Below.refl _ _⟩
  case round =>
    obtain ⟨k, hk, rfl, rfl, hw⟩ := hrel
    have Hw := Lib.hid hw
    by_cases hk2 : k < 11
    · have a1 := (HN4.out.below hw).cell k
      have a2 := (HS.out.below hw).cell k
      rw [(nums_at e k hk2).1] at a1
      rw [(nums_at e k hk2).2] at a2
      obtain ⟨⟨f1, f2⟩, f3⟩ := nums_fit e Hfit.out k hk2
      have hsz := bK_size e k (by omega)
      have HSU := Lib.hid (bK_succ e k)
      obtain ⟨V, hV⟩ : ∃ V, (numsL e).getD k 0 = V := ⟨_, rfl⟩
      obtain ⟨n, hn⟩ : ∃ n, sizesL.getD k 0 = n := ⟨_, rfl⟩
      rw [hV] at a1 f1 f2 HSU
      rw [hn] at a2 f3 HSU
      have HBy := Lib.hid (fun W => Bytes_calls V n W f1 f2 f3)
      have hbs := bytesStr_size V n
      have hss : (strOfNums (bK e k)).size ≤ 88 := by rw [strOfNums_size]; omega
      clear hw hV hn f1 f2 hsz
      go_wp2_with fail
      have hk0 : (0 : Int) ≤ (k : Int) := by omega
      have hk11 : (k : Int) < 11 := by omega
      have HKE := Lib.hid (fun W (hB : Below wr.heap.size wr W) => (⟨(hB.cell (World.block_lt_of_cell? _ _ a1)).trans a1, (hB.cell (World.block_lt_of_cell? _ _ a2)).trans a2⟩ : W.cell? ⟨W2.heap.size, k, none⟩ = some (.int .u64 V) ∧ W.cell? ⟨g, k, none⟩ = some (.int .i64 (n : Int))))
      have hsum : (strOfNums (bK e k)).size + (bytesStr V n).size ≤ 9223372036854775807 := by omega
      clear hbs hss
      have hadd : ∀ W : World, (Op.stringOp .add (strOfNums (bK e k)) (bytesStr V n)).run Try.prog W = .ok (.string (strOfNums (bK e k) ++ bytesStr V n)) W := fun W => by simp [go_sem]; omega
      go_region_held3 (fun w' => w'.cell? ⟨W2.heap.size, k, none⟩ = some (.int .u64 V) ∧ w'.cell? ⟨g, k, none⟩ = some (.int .i64 (n : Int))) (first | go_keep | exact HKE.out _ (by assumption))
        (first
          | ((go_at_call 48; refine (HBy.out wr.drew).mono ?_; rintro r p1 ⟨rfl, bb⟩; have e1 : Below wr.heap.size wr p1 := (Below.refl _ _).drew.trans (bb.mono (Below.refl wr.heap.size wr).drew.size))))
      go_wp2_with fail
      refine ⟨⟨k + 1, by omega, by go_num, ?_, Hw.out.trans (e1.mono Hw.out.size)⟩, by simp [intOf]; omega⟩
      rw [HSU.out, str_app]
      rfl
    · obtain rfl : k = 11 := by omega
      rw [bK_all]
      go_wp2_with fail
      go_ret
      exact ⟨rfl, HB4.out.trans (Hw.out.mono HB4.out.size)⟩
set_option maxRecDepth 20000 in
theorem renc_calls (e : E) (w : World) (ho : Ok e) : Calls Try.prog 12 #[e.v] w fun r w' => r = .returned (.tuple #[.string (encB e), .int .i64 (encX e)]) ∧ Below w.heap.size w w' := by
  have hb := Blk.new w 25 e.cells
  have HB := Lib.hid ((Below.refl w.heap.size w).alloc (Nat.le_refl _) (.cells e.cells 25))
  have HBk := Lib.hid hb
  have HG := Lib.hid (fun W => rgoodE_calls e W ho.rate ho.income)
  rw [← good_same e ho.rate ho.income] at HG
  unfold encB encX
  obtain ⟨gb, hgb⟩ : ∃ b, goodE e = b := ⟨_, rfl⟩
  rw [hgb] at HG ⊢
  obtain ⟨k0, k1, k2, k3, k4, k5, k6, k7, k8, k9, k10⟩ := bx_of hb
  clear hb
  go_enter Try.func12, Try.ntmps12
  go_upto_region 1 with fail
  generalize w.alloc (.cells e.cells 25) = W1 at *
  go_wp2_with fail
  refine (HG.out _).mono ?_
  rintro r w2 ⟨rfl, b2⟩
  have HB2 := Lib.hid (HB.out.trans (b2.mono HB.out.size))
  have HK2 := Lib.hid (HBk.out.below b2)
  clear b2 k0 k1 k2 k3 k4 k5 k6 k7 k8 k9 k10
  cases gb with
  | false =>
    go_wp2_with fail
    go_ret2
    exact ⟨rfl, HB2.out⟩
  | true =>
    have HF := Lib.hid (fits_of e hgb ho)
    obtain ⟨k0, k1, k2, k3, k4, k5, k6, k7, k8, k9, k10⟩ := bx_of HK2.out
    go_wp2_with fail
    refine (rbytes_calls e _ HF.out).mono ?_
    rintro r w3 ⟨rfl, b3⟩
    have HB3 := Lib.hid (HB2.out.trans (b3.mono HB2.out.size))
    clear b3 k0 k1 k2 k3 k4 k5 k6 k7 k8 k9 k10
    go_wp2_with fail
    go_ret2
    exact ⟨rfl, HB3.out⟩
end Go.Proofs.Ytadcpdpcpecooaa.Ev
