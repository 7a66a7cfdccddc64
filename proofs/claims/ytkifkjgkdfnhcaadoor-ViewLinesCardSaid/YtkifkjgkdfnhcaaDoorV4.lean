/- A day's year, month and day, of both calendars. -/
import Derived.Test.YtkifkjgkdfnhcaaDoorV3
namespace Go.Proofs.YtkifkjgkdfnhcaaDoor.Vw
open Go.RowKit Go.Sort Go.Lib Go.Shelf

theorem day_range {n : Int} {k : Nat} (hk : k < 2880) (h : S k ≤ n ∧ n < S (k + 1)) : 0 ≤ n ∧ n ≤ 87658 := by
  have h1 : S 0 ≤ S k := S_le (by omega)
  have h2 : S (k + 1) ≤ S 2880 := S_le (by omega)
  rw [S_end] at h2
  have h3 : S 0 = 0 := rfl
  omega
theorem yr_iff {n : Int} {k : Nat} (h : S k ≤ n ∧ n < S (k + 1)) (j : Nat) : yr (1960 + (j : Int)) ≤ n ↔ j ≤ k / 12 := by
  rw [yr_S, S_iff h]
  omega
theorem S_part {n : Int} {k : Nat} (h : S k ≤ n ∧ n < S (k + 1)) (i : Nat) (hi : i ≤ k % 12) : (mdN (1960 + (k / 12 : Nat)) (1 + (i : Int)) ≤ n - S (12 * (k / 12) + i) ↔ i < k % 12) ∧ n - S (12 * (k / 12) + i) - mdN (1960 + (k / 12 : Nat)) (1 + (i : Int)) = n - S (12 * (k / 12) + (i + 1)) ∧ 0 ≤ n - S (12 * (k / 12) + i) := by
  have e : S (12 * (k / 12) + (i + 1)) = S (12 * (k / 12) + i) + mdN (1960 + (k / 12 : Nat)) (1 + (i : Int)) := by
    rw [← md_at (k / 12) i (by omega)]
    rfl
  have q := S_iff h (12 * (k / 12) + (i + 1))
  have q2 := (S_iff h (12 * (k / 12) + i)).2 (by omega)
  rw [e] at q
  refine ⟨?_, by rw [e]; omega, by omega⟩
  constructor
  · intro g
    have := q.1 (by omega)
    omega
  · intro g
    have := q.2 (by omega)
    omega
set_option maxRecDepth 20000 in
set_option maxHeartbeats 4000000 in
theorem civil_calls (n : Int) (k : Nat) (hk : k < 2880) (h : S k ≤ n ∧ n < S (k + 1)) (w : World) :
    Calls Tryd.prog 23 #[.int .i64 n] w fun e w' => e = .returned (.tuple #[.int .i64 (1960 + (k / 12 : Nat)), .int .i64 (1 + (k % 12 : Nat)), .int .i64 (n - S k + 1), .int .i64 0]) ∧ w' = w := by
  obtain ⟨n0, n1⟩ := day_range hk h
  have HG : Hid (∀ W, Calls Tryd.prog 39 #[.int .i64 n] W fun e w' => e = .returned (.bool true) ∧ w' = W) := Lib.hid (fun W => by
    have := gday_calls n W
    rw [show goodD n = true by unfold goodD; simp [n0, n1]] at this
    exact this)
  have HY := Lib.hid (fun j => yr_iff h j)
  have HP := Lib.hid (fun i hi => S_part h i hi)
  have HS : Hid (S (12 * (k / 12) + k % 12) = S k) := Lib.hid (by congr 1; omega)
  have hj : k / 12 ≤ 239 := by omega
  have hi : k % 12 ≤ 11 := by omega
  have hst : (n / 366).toNat ≤ k / 12 := by
    have := (yr_iff h (n / 366).toNat).1 (by
      have := yr_le (n / 366).toNat
      omega)
    exact this
  have HQ : Hid (yr (1960 + (k / 12 : Nat)) = S (12 * (k / 12) + 0)) := Lib.hid (yr_S _)
  obtain ⟨q, hq⟩ : ∃ q : Nat, n / 366 = (q : Int) := ⟨(n / 366).toNat, by omega⟩
  rw [hq, Int.toNat_natCast] at hst
  have HN := Lib.hid h
  have HQQ := Lib.hid hq
  generalize k / 12 = j0 at *
  generalize k % 12 = i0 at *
  clear h hk hq
  go_enter Tryd.func23, Tryd.ntmps23
  go_upto_block 0 with (go_at_call 39; refine (HG.out _).mono ?_; rintro e w1 ⟨rfl, rfl⟩)
  rw [HQQ.out]
  go_cut [2] from 12 to 22 (fun y W => y = .int .i64 (1960 + (j0 : Int)) ∧ W = w1)
  case first =>
    go_wp2_with fail
    go_loop [2] (fun y => ∃ j : Nat, j ≤ j0 ∧ y = .int .i64 (1960 + (j : Int))) (fun y => j0 + 1960 - (RowKit.intOf y).toNat)
    case atStart => exact ⟨q, hst, rfl⟩
    case round =>
      obtain ⟨j, hjj, rfl⟩ := hrel
      have hC := fun W => years_calls (1960 + ((j + 1 : Nat) : Int)) (by omega) (by omega) W
      have hY := HY.out (j + 1)
      generalize yr (1960 + ((j + 1 : Nat) : Int)) = Y1 at hC hY
      have HC := Lib.hid hC
      clear hC
      by_cases h2 : j < j0
      · have hy : Y1 ≤ n := hY.2 (by omega)
        have hlt : (1960 + (j : Int)) < 2199 := by omega
        clear hY
        go_wp2_with fail
        rw [show (1960 : Int) + (j : Int) + 1 = 1960 + ((j + 1 : Nat) : Int) by omega]
        refine (HC.out _).mono ?_
        rintro e w1 ⟨rfl, rfl⟩
        go_wp2_with fail
        go_round
        case rel => exact ⟨j + 1, by omega, by go_num⟩
        case measure => simp [RowKit.intOf]; omega
      · obtain rfl : j = j0 := by omega
        have hy : ¬ Y1 ≤ n := fun c => by have := hY.1 c; omega
        clear hY
        by_cases h9 : (1960 + (j : Int)) < 2199
        · go_wp2_with fail
          rw [show (1960 : Int) + (j : Int) + 1 = 1960 + ((j + 1 : Nat) : Int) by omega]
          refine (HC.out _).mono ?_
          rintro e w1 ⟨rfl, rfl⟩
          go_wp2_with fail
          go_meet
          exact ⟨rfl, rfl⟩
        · go_wp2_with fail
          go_meet
          exact ⟨rfl, rfl⟩
  case rest =>
    obtain ⟨rfl, rfl⟩ := hcut
    have HC0 := Lib.hid (fun W => years_calls (1960 + (j0 : Int)) (by omega) (by omega) W)
    rw [HQ.out] at HC0
    have hz : 0 ≤ S (12 * j0 + 0) ∧ S (12 * j0 + 0) ≤ n := by
      have a := (HP.out 0 (by omega)).2.2
      have b : S 0 ≤ S (12 * j0 + 0) := S_le (by omega)
      have c : S 0 = 0 := rfl
      omega
    have HZ : Hid (∀ i, 0 ≤ S (12 * j0 + i)) := Lib.hid (fun i => by
      have b : S 0 ≤ S (12 * j0 + i) := S_le (by omega)
      have c : S 0 = 0 := rfl
      omega)
    have HX : Hid (S (12 * j0 + 0) = S (12 * j0 + 0)) := Lib.hid rfl
    obtain ⟨Z, hZ⟩ : ∃ Z, S (12 * j0 + 0) = Z := ⟨_, rfl⟩
    rw [hZ] at hz HC0
    have HZZ := Lib.hid hZ
    clear hZ
    go_wp2_with fail
    refine (HC0.out _).mono ?_
    rintro e w1 ⟨rfl, rfl⟩
    go_wp2_with fail
    go_loop [0, 3] (fun r m => ∃ i : Nat, i ≤ i0 ∧ r = .int .i64 (n - S (12 * j0 + i)) ∧ m = .int .i64 (1 + (i : Int))) (fun _ m => i0 + 1 - (RowKit.intOf m).toNat)
    case atStart => exact ⟨0, by omega, by rw [HZZ.out], rfl⟩
    case round =>
      obtain ⟨i, hii, rfl, rfl⟩ := hrel
      obtain ⟨p1, p2, p3⟩ := HP.out i hii
      have HD := Lib.hid (fun W => days_calls (1960 + (j0 : Int)) (1 + (i : Int)) (by omega) (by omega) (by omega) W)
      have hd := mdN_le (1960 + (j0 : Int)) (1 + (i : Int)) (by omega)
      have hz := HZ.out i
      have HP2 := Lib.hid p2
      obtain ⟨D, hD⟩ : ∃ D, mdN (1960 + (j0 : Int)) (1 + (i : Int)) = D := ⟨_, rfl⟩
      obtain ⟨R, hR⟩ : ∃ R, S (12 * j0 + i) = R := ⟨_, rfl⟩
      rw [hD, hR] at HP2 p1
      rw [hD] at HD hd
      rw [hR] at p3 hz
      have HRR := Lib.hid hR
      rw [hR]
      clear p2 hD hR
      by_cases h2 : i < i0
      · have hge : D ≤ n - R := p1.2 h2
        clear p1
        go_wp2_with fail
        refine (HD.out _).mono ?_
        rintro e w1 ⟨rfl, rfl⟩
        go_wp2_with fail
        refine (HD.out _).mono ?_
        rintro e w1 ⟨rfl, rfl⟩
        go_wp2_with fail
        go_round
        case rel => exact ⟨i + 1, by omega, by rw [← HP2.out], by go_num⟩
        case measure => simp [RowKit.intOf]; omega
      · obtain rfl : i = i0 := by omega
        have hge : ¬ D ≤ n - R := fun c => by have := p1.1 c; omega
        have HF : Hid (R = S k) := Lib.hid (HRR.out.symm.trans HS.out)
        clear p1
        go_wp2_with fail
        refine (HD.out _).mono ?_
        rintro e w1 ⟨rfl, rfl⟩
        go_wp2_with fail
        refine bodyPost_ret (v := .tuple #[.int .i64 (1960 + (j0 : Int)), .int .i64 (1 + (i : Int)), .int .i64 (n - R + 1), .int .i64 0]) (by simp [results, Tryd.results23, go_sem]) rfl ⟨by rw [HF.out], rfl⟩
/-- A block known whole. -/
structure Blk (w : World) (g : Nat) (t : TypeId) (cs : Array Value) : Prop where
  heap : w.heap[g]? = some (.cells cs t (0, 0))
theorem Blk.new (w : World) (t : TypeId) (cs : Array Value) : Blk (w.alloc (.cells cs t)) w.heap.size t cs := ⟨heap_alloc_new w _⟩
theorem Blk.lt {w : World} {g : Nat} {t : TypeId} {cs : Array Value} (h : Blk w g t cs) : g < w.heap.size := by
  rcases Nat.lt_or_ge g w.heap.size with h1 | h1
  · exact h1
  · have := h.heap
    rw [Array.getElem?_eq_none h1] at this
    cases this
theorem Blk.cell {w : World} {g : Nat} {t : TypeId} {cs : Array Value} (h : Blk w g t cs) (k : Nat) : w.cell? ⟨g, k, none⟩ = cs[k]? := cell_of_row w g k cs t (0, 0) h.heap
theorem Blk.frozen {w : World} {g : Nat} {t : TypeId} {cs : Array Value} (h : Blk w g t cs) (k : Nat) : w.frozen? ⟨g, k, none⟩ = false := frozen_of_row w g k cs t h.heap
theorem Blk.below {w w1 : World} {g : Nat} {t : TypeId} {cs : Array Value} (h : Blk w g t cs) (hb : Below w.heap.size w w1) : Blk w1 g t cs := ⟨(hb.block g h.lt).trans h.heap⟩
theorem Blk.set_ {w : World} {g : Nat} {t : TypeId} {cs : Array Value} (h : Blk w g t cs) (k : Nat) (v : Value) : Blk (w.setCell ⟨g, k, none⟩ v) g t (cs.setIfInBounds k v) := ⟨heap_setCell_same w g k cs t v h.heap⟩
theorem results_cell_row2 {P : Program} {fn : Func} {p u : Tmp} {ty : TypeId} (h : fn.results = #[.cell p ty, .tmp u]) (tmps : Array Value) (w : World) (g : Nat) (t : TypeId) (cs : Array Value) (fr : Nat × Nat) (d : TypeDesc)
    (hp : tmps.getD p undef = .pointer (some ⟨g, 0, none⟩)) (hg : w.heap[g]? = some (.cells cs t fr))
    (hu : P.underlying ty = some d) (hd : (match d with | .struct _ | .array _ _ => true | _ => false) = true) (hi : (P.info? ty).map (·.size) = some cs.size) :
    (results fn tmps).run P w = .ok (.tuple #[.agg cs, tmps.getD u undef]) w := by
  have hp' : tmps[p]?.getD undef = .pointer (some ⟨g, 0, none⟩) := by simpa using hp
  simp [results, h, hp', asAddr, run_loadVar_row w g t ty cs fr d hg hu hd hi, Result.andThen]
set_option maxRecDepth 20000 in
theorem civil_bad (n : Int) (h : goodD n = false) (w : World) :
    Calls Tryd.prog 23 #[.int .i64 n] w fun e w' => e = .returned (.tuple #[.int .i64 0, .int .i64 0, .int .i64 0, .int .i64 15]) ∧ w' = w := by
  have HG := Lib.hid (fun W => gday_calls n W)
  rw [h] at HG
  clear h
  go_enter Tryd.func23, Tryd.ntmps23
  go_wp2_with fail
  refine (HG.out _).mono ?_
  rintro e w1 ⟨rfl, rfl⟩
  go_wp2_with fail
  refine bodyPost_ret (v := .tuple #[.int .i64 0, .int .i64 0, .int .i64 0, .int .i64 15]) (by simp [results, Tryd.results23, go_sem]) rfl ⟨rfl, rfl⟩
set_option maxRecDepth 20000 in
theorem rcivil_bad (n : Int) (h : goodD n = false) (w : World) :
    Calls Tryd.prog 24 #[.int .i64 n] w fun e w' => e = .returned (.tuple #[.agg #[.int .i64 0, .int .i64 0, .int .i64 0], .int .i64 15]) ∧ Below w.heap.size w w' := by
  have HG := Lib.hid (fun W => rgday_calls n W)
  rw [h] at HG
  have HR := Lib.hid (Blk.new w 55 #[.int .i64 0, .int .i64 0, .int .i64 0])
  have HB := Lib.hid ((Below.refl w.heap.size w).alloc (Nat.le_refl _) (.cells #[.int .i64 0, .int .i64 0, .int .i64 0] 55))
  clear h
  go_enter Tryd.func24, Tryd.ntmps24
  go_upto_region 1 with fail
  generalize w.alloc (.cells #[.int .i64 0, .int .i64 0, .int .i64 0] 55) = W1 at *
  go_wp2_with fail
  refine (HG.out _).mono ?_
  rintro e w1 ⟨rfl, rfl⟩
  have c0 : w1.cell? ⟨w.heap.size, 0, none⟩ = some (.int .i64 0) := HR.out.cell 0
  have c1 : w1.cell? ⟨w.heap.size, 1, none⟩ = some (.int .i64 0) := HR.out.cell 1
  have c2 : w1.cell? ⟨w.heap.size, 2, none⟩ = some (.int .i64 0) := HR.out.cell 2
  have f0 := HR.out.frozen 0
  have f1 := HR.out.frozen 1
  have f2 := HR.out.frozen 2
  go_wp2_with fail
  have S1 := ((HR.out.set_ 0 (.int .i64 0)).set_ 1 (.int .i64 0)).set_ 2 (.int .i64 0)
  have SB := ((HB.out.setCell (p := ⟨w.heap.size, 0, none⟩) (Nat.le_refl _) (.int .i64 0)).setCell (p := ⟨w.heap.size, 1, none⟩) (Nat.le_refl _) (.int .i64 0)).setCell (p := ⟨w.heap.size, 2, none⟩) (Nat.le_refl _) (.int .i64 0)
  (try simp only [Exit.inBlock, Exit.then])
  refine bodyPost_ret (results_cell_row2 (p := 2) (u := 3) (ty := 55) rfl _ _ w.heap.size 55 _ _ _ rfl S1.heap Tryd.underlying55 rfl (by kernel_rfl)) rfl ?_
  exact ⟨rfl, SB⟩
theorem md_walk (m : Nat) : mdN (1960 + (m : Int) / 12) (1 + (m : Int) % 12) = md m := by
  unfold md
  congr 1
set_option maxRecDepth 20000 in
set_option maxHeartbeats 4000000 in
theorem rcivil_calls (n : Int) (k : Nat) (hk : k < 2880) (h : S k ≤ n ∧ n < S (k + 1)) (w : World) :
    Calls Tryd.prog 24 #[.int .i64 n] w fun e w' => e = .returned (.tuple #[.agg #[.int .i64 (1960 + (k / 12 : Nat)), .int .i64 (1 + (k % 12 : Nat)), .int .i64 (n - S k + 1)], .int .i64 0]) ∧ Below w.heap.size w w' := by
  obtain ⟨n0, n1⟩ := day_range hk h
  have HG : Hid (∀ W, Calls Tryd.prog 42 #[.int .i64 n] W fun e w' => e = .returned (.bool true) ∧ w' = W) := Lib.hid (fun W => by
    have := rgday_calls n W
    rw [show goodD n = true by unfold goodD; simp [n0, n1]] at this
    exact this)
  have HS := Lib.hid (S_iff h)
  have HZ : Hid (∀ i, 0 ≤ S i) := Lib.hid (fun i => by
    have b : S 0 ≤ S i := S_le (by omega)
    have c : S 0 = 0 := rfl
    omega)
  have HR := Lib.hid (Blk.new w 55 #[.int .i64 0, .int .i64 0, .int .i64 0])
  have HB := Lib.hid ((Below.refl w.heap.size w).alloc (Nat.le_refl _) (.cells #[.int .i64 0, .int .i64 0, .int .i64 0] 55))
  have HN := Lib.hid h
  clear h
  go_enter Tryd.func24, Tryd.ntmps24
  go_upto_region 1 with fail
  generalize w.alloc (.cells #[.int .i64 0, .int .i64 0, .int .i64 0] 55) = W1 at *
  go_wp2_with fail
  refine (HG.out _).mono ?_
  rintro e w1 ⟨rfl, rfl⟩
  go_wp2_with fail
  go_loop [0, 4] (fun r m => ∃ i : Nat, i ≤ k ∧ r = .int .i64 (n - S i) ∧ m = .int .i64 (i : Int)) (fun _ m => k - (RowKit.intOf m).toNat)
  case atStart => exact ⟨0, by omega, by show _ = Value.int .i64 (n - 0); rw [Int.sub_zero], rfl⟩
  case round =>
    obtain ⟨i, hii, rfl, rfl⟩ := hrel
    have hD := fun W => rdays_calls (1960 + (i : Int) / 12) (1 + (i : Int) % 12) (by omega) (by omega) (by omega) W
    rw [md_walk] at hD
    have hd := md_le i
    have hz := HZ.out i
    have hz1 := (HS.out i).2 hii
    have p1 := HS.out (i + 1)
    have HP2 : Hid (n - S i - md i = n - S (i + 1)) := Lib.hid (by show _ = n - (S i + md i); omega)
    have p0 : S (i + 1) = S i + md i := rfl
    rw [p0] at p1
    obtain ⟨D, hDD⟩ : ∃ D, md i = D := ⟨_, rfl⟩
    obtain ⟨R, hR⟩ : ∃ R, S i = R := ⟨_, rfl⟩
    rw [hDD, hR] at p1 HP2
    rw [hDD] at hD hd
    rw [hR] at hz hz1
    have HRR := Lib.hid hR
    have HD := Lib.hid hD
    rw [hR]
    clear hDD hR hD p0
    by_cases h2 : i < k
    · have hge : D ≤ n - R := by have := p1.2 (by omega); omega
      clear p1
      go_wp2_with fail
      refine (HD.out _).mono ?_
      rintro e w1 ⟨rfl, rfl⟩
      go_wp2_with fail
      refine (HD.out _).mono ?_
      rintro e w1 ⟨rfl, rfl⟩
      go_wp2_with fail
      go_round
      case rel => exact ⟨i + 1, by omega, by rw [← HP2.out], by go_num⟩
      case measure => simp [RowKit.intOf]; omega
    · have hge : ¬ D ≤ n - R := fun c => by have := p1.1 (by omega); omega
      have hik : i = k := by omega
      have HF : Hid (R = S k) := Lib.hid (by rw [← HRR.out, hik])
      have HE : Hid ((1960 + (i : Int) / 12 = 1960 + ((k / 12 : Nat) : Int)) ∧ (1 + (i : Int) % 12 = 1 + ((k % 12 : Nat) : Int))) := Lib.hid (by subst hik; omega)
      clear p1 hik
      have c0 : w1.cell? ⟨w.heap.size, 0, none⟩ = some (.int .i64 0) := HR.out.cell 0
      have c1 : w1.cell? ⟨w.heap.size, 1, none⟩ = some (.int .i64 0) := HR.out.cell 1
      have c2 : w1.cell? ⟨w.heap.size, 2, none⟩ = some (.int .i64 0) := HR.out.cell 2
      have f0 := HR.out.frozen 0
      have f1 := HR.out.frozen 1
      have f2 := HR.out.frozen 2
      go_wp2_with fail
      refine (HD.out _).mono ?_
      rintro e w1 ⟨rfl, rfl⟩
      go_wp2_with fail
      have S1 := ((HR.out.set_ 0 (.int .i64 (1960 + (i : Int) / 12))).set_ 1 (.int .i64 (1 + (i : Int) % 12))).set_ 2 (.int .i64 (n - R + 1))
      have SB := ((HB.out.setCell (p := ⟨w.heap.size, 0, none⟩) (Nat.le_refl _) (.int .i64 (1960 + (i : Int) / 12))).setCell (p := ⟨w.heap.size, 1, none⟩) (Nat.le_refl _) (.int .i64 (1 + (i : Int) % 12))).setCell (p := ⟨w.heap.size, 2, none⟩) (Nat.le_refl _) (.int .i64 (n - R + 1))
      (try simp only [Exit.inBlock, Exit.then])
      refine bodyPost_ret (results_cell_row2 (p := 2) (u := 3) (ty := 55) rfl _ _ w.heap.size 55 _ _ _ rfl S1.heap Tryd.underlying55 rfl (by kernel_rfl)) rfl ?_
      exact ⟨by rw [← HE.out.1, ← HE.out.2, ← HF.out]; rfl, SB⟩
end Go.Proofs.YtkifkjgkdfnhcaaDoor.Vw
