/- The reference's cuts: the points of all stretches, rising. -/
import Derived.Test.YtgiccdjgbjgdcaaRi
namespace Go.Proofs.Ytgiccdjgbjgdcaa.Sp
open Go.RowKit Go.Proofs.YtgiccdjgbjgdcaaW.PrintWords PSpanTells

/-- The points at which stretches begin or have ended, rising. -/
def PtsOf (xs : List S51) (L : List Int) : Prop := L.Pairwise (· < ·) ∧ ∀ x, x ∈ L ↔ ∃ s ∈ xs, x = s.f0 ∨ x = s.f1
theorem ins_sorted (L : List Int) (m : Nat) (y : Int) (hs : L.Pairwise (· < ·)) (hhi : ∀ q (hq : q < L.length), m ≤ q → y < L[q]) (hlo : ∀ q (hq : q < L.length), q < m → L[q] < y) :
    (L.take m ++ [y] ++ L.drop m).Pairwise (· < ·) ∧ ∀ x, x ∈ L.take m ++ [y] ++ L.drop m ↔ x ∈ L ∨ x = y := by
  have h1 : ∀ x ∈ L.take m, x < y := by
    intro x hx
    obtain ⟨i, hi, rfl⟩ := List.getElem_of_mem hx
    rw [List.length_take] at hi
    rw [List.getElem_take]
    exact hlo i (by omega) (by omega)
  have h2 : ∀ x ∈ L.drop m, y < x := by
    intro x hx
    obtain ⟨i, hi, rfl⟩ := List.getElem_of_mem hx
    rw [List.length_drop] at hi
    rw [List.getElem_drop]
    exact hhi (m + i) (by omega) (by omega)
  have hs' := hs
  rw [← List.take_append_drop m L, List.pairwise_append] at hs'
  refine ⟨?_, fun x => ?_⟩
  · rw [List.pairwise_append, List.pairwise_append]
    refine ⟨⟨hs'.1, List.pairwise_singleton _ _, fun x hx z hz => ?_⟩, hs'.2.1, fun x hx z hz => ?_⟩
    · rw [List.mem_singleton] at hz; subst hz; exact h1 x hx
    · rw [List.mem_append, List.mem_singleton] at hx
      rcases hx with hx | rfl
      · exact hs'.2.2 x hx z hz
      · exact h2 z hz
  · have : x ∈ L ↔ x ∈ L.take m ∨ x ∈ L.drop m := by
      rw [← List.mem_append, List.take_append_drop]
    rw [this]
    simp only [List.mem_append, List.mem_singleton]
    constructor
    · rintro ((h | h) | h)
      · exact .inl (.inl h)
      · exact .inr h
      · exact .inl (.inr h)
    · rintro ((h | h) | h)
      · exact .inl (.inl h)
      · exact .inr h
      · exact .inl (.inr h)
/-- Of a rising list: what is ahead of one that is not above y. -/
theorem low_sorted (L : List Int) (m : Nat) (y : Int) (hs : L.Pairwise (· < ·)) (hm : 0 < m) (hml : m ≤ L.length) (h : (L[m - 1]'(by omega)) < y) : ∀ q (hq : q < L.length), q < m → L[q] < y := by
  intro q hq hqm
  rcases Nat.eq_or_lt_of_le (show q ≤ m - 1 by omega) with e | e
  · subst e; exact h
  · have := List.pairwise_iff_getElem.1 hs q (m - 1) hq (by omega) e
    omega

theorem wrapn (q n : Nat) (h : q < n) (hn : n ≤ 100000) : IntKind.i64.wrap (q : Int) = (q : Int) := by rw [IntKind.wrap_i64]; omega
theorem succ_ne (q : Nat) : ((q : Int) + 1 == 0) = false := by simp; omega
/-- The three appends of an insertion. -/
theorem ins1 (wx W : World) (b : Nat) (L : List Int) (m c : Nat) (A : Option Addr) (hr : Kd.C kI wx A L.length L) (hm : m ≤ L.length) (hl : L.length ≤ 100000)
    (hb : W.heap[b]? = some (.cells #[] 3 (0, 0))) (h0 : wx.heap.size ≤ b) (hB : Below wx.heap.size wx W) :
    ∃ v1 w1, (∀ ty, (Builtin.append_ #[44, 44] ty #[.slice (some ⟨b, 0, none⟩) 0 0, .slice A m c]).run Try.prog W = .ok v1 w1) ∧
      (OwnI w1 wx.heap.size v1 (L.take m) ∧ Below wx.heap.size wx w1 ∧ ∀ k, k < W.heap.size → k ≠ b → w1.heap[k]? = W.heap[k]?) := by
  have ho : OwnI W wx.heap.size (.slice (some ⟨b, 0, none⟩) 0 0) [] :=
    ⟨[], ⟨rfl, .inr ⟨b, 0, #[], rfl, h0, hb, Nat.le_refl _, Nat.zero_le _, by simp, by simp⟩⟩, Reps.none _ _⟩
  have hl2 : (L.take m).length = m := by rw [List.length_take]; omega
  obtain ⟨v1, w1, h1, h2, h3, h4⟩ := app_int wx.heap.size _ [] (L.take m) A c W ho (Kd.C_take (Kd.C_below hr hB) hm) hB.size (by rw [hl2]; simp; omega)
  rw [hl2] at h1
  exact ⟨v1, w1, h1, h2, hB.trans h3, fun k hk hne => h4.block k hk (by simp [Value.ownBlock]; exact fun e => hne e)⟩
theorem ins2 (wx W : World) (v : Value) (L : List Int) (y : Int) (bo : Nat) (HO : OwnI W wx.heap.size v L) (hc : W.cell? ⟨bo, 0, none⟩ = some (.int .i64 y)) (hB : Below wx.heap.size wx W) (hl : L.length ≤ 100000) :
    ∃ v1 w1, (∀ ty, (Builtin.append_ #[44, 44] ty #[v, .slice (some ⟨bo, 0, none⟩) 1 1]).run Try.prog W = .ok v1 w1) ∧
      (OwnI w1 wx.heap.size v1 (L ++ [y]) ∧ Below wx.heap.size wx w1) := by
  obtain ⟨v1, w1, h1, h2, h3, _⟩ := app_int wx.heap.size v L [y] _ 1 W HO (one_rowI W _ y hc) hB.size (by simp; omega)
  exact ⟨v1, w1, h1, h2, hB.trans h3⟩
theorem ins3 (wx W : World) (v : Value) (L M : List Int) (m c : Nat) (A P : Option Addr) (HO : OwnI W wx.heap.size v L) (hr : Kd.C kI wx A M.length M) (hm : m ≤ M.length) (hcM : M.length ≤ c) (hP : P = if c = m then A else A.map (·.add (m * 1)))
    (hB : Below wx.heap.size wx W) (hl : L.length + M.length ≤ 100000) :
    ∃ v1 w1, (∀ ty, (Builtin.append_ #[44, 44] ty #[v, .slice P (M.length - m) (c - m)]).run Try.prog W = .ok v1 w1) ∧
      (OwnI w1 wx.heap.size v1 (L ++ M.drop m) ∧ Below wx.heap.size wx w1) := by
  have hl2 : (M.drop m).length = M.length - m := List.length_drop
  have hd := Kd.C_drop (c := c) (Kd.C_below hr hB) hm hcM
  have hP' : P = if c = m then A else A.map (·.add (m * kI.sz)) := hP
  rw [← hP'] at hd
  obtain ⟨v1, w1, h1, h2, h3, _⟩ := app_int wx.heap.size v L (M.drop m) P (c - m) W HO hd hB.size (by rw [hl2]; omega)
  rw [hl2] at h1
  exact ⟨v1, w1, h1, h2, hB.trans h3⟩

theorem step_mem (j : Nat) (hj : j < 2) (f0 f1 y : Int) (hy : (if j = 0 then f0 else f1) = y) (P : Int → Prop) (z : Int) :
    ((P z ∨ (0 < j ∧ z = f0) ∨ (1 < j ∧ z = f1)) ∨ z = y) ↔ (P z ∨ (0 < j + 1 ∧ z = f0) ∨ (1 < j + 1 ∧ z = f1)) := by
  subst hy
  rcases (show j = 0 ∨ j = 1 by omega) with rfl | rfl
  · simp
  · simp [or_assoc]
theorem pts_succ (l : List S51) (k : Nat) (x : S51) (L L3 : List Int) (hk : k < l.length) (hx : l[k] = x) (h : PtsOf (l.take k) L) (h3 : L3.Pairwise (· < ·) ∧ ∀ y, y ∈ L3 ↔ (y ∈ L ∨ (0 < 2 ∧ y = x.f0) ∨ (1 < 2 ∧ y = x.f1))) : PtsOf (l.take (k + 1)) L3 := by
  refine ⟨h3.1, fun y => ?_⟩
  rw [h3.2 y, h.2 y, List.take_succ_eq_append_getElem hk, hx]
  simp only [List.mem_append, List.mem_singleton]
  constructor
  · rintro (⟨s, hs, e⟩ | ⟨_, e⟩ | ⟨_, e⟩)
    · exact ⟨s, .inl hs, e⟩
    · exact ⟨x, .inr rfl, .inl e⟩
    · exact ⟨x, .inr rfl, .inr e⟩
  · rintro ⟨s, hs | rfl, e⟩
    · exact .inl ⟨s, hs, e⟩
    · rcases e with e | e
      · exact .inr (.inl ⟨by decide, e⟩)
      · exact .inr (.inr ⟨by decide, e⟩)
abbrev oE : Obj := .cells #[] 3
abbrev oY (y : Int) : Obj := .cells #[.int .i64 y] 3
theorem hp1 (wx : World) : ((wx.alloc oE).drew).heap[wx.heap.size]? = some (.cells #[] 3 (0, 0)) := heap_alloc_new wx _
theorem hp2 (wx : World) (o : Obj) : (((wx.alloc oE).alloc o).drew).heap[wx.heap.size]? = some (.cells #[] 3 (0, 0)) := (heap_alloc_old (wx.alloc oE) o (by simp)).trans (heap_alloc_new wx _)
theorem hp3 (wx : World) (o : Obj) : (((wx.alloc o).alloc oE).drew).heap[wx.heap.size + 1]? = some (.cells #[] 3 (0, 0)) := by
  have h := heap_alloc_new (wx.alloc o) oE
  rw [show (wx.alloc o).heap.size = wx.heap.size + 1 by simp] at h
  exact h
theorem hq2 (wx : World) (y : Int) : (((wx.alloc oE).alloc (oY y)).drew).heap[wx.heap.size + 1]? = some (.cells #[.int .i64 y] 3 (0, 0)) := by
  have h := heap_alloc_new (wx.alloc oE) (oY y)
  rw [show (wx.alloc oE).heap.size = wx.heap.size + 1 by simp] at h
  exact h
theorem hq3 (wx : World) (y : Int) : (((wx.alloc (oY y)).alloc oE).drew).heap[wx.heap.size]? = some (.cells #[.int .i64 y] 3 (0, 0)) := (heap_alloc_old (wx.alloc (oY y)) oE (by simp)).trans (heap_alloc_new wx _)
theorem bl1 (wx : World) (o : Obj) : Below wx.heap.size wx (wx.alloc o).drew := ((Below.refl _ _).alloc (Nat.le_refl _) _).drew
theorem bl2 (wx : World) (o o' : Obj) : Below wx.heap.size wx (((wx.alloc o).alloc o').drew) := (((Below.refl _ _).alloc (Nat.le_refl _) _).alloc (by simp) _).drew

set_option maxHeartbeats 2000000 in
theorem cuts_calls (va vb : Value) (a b : List S51) (w : World) (ha : Rr w va a) (hb : Rr w vb b) (hl : a.length + b.length ≤ 2000) :
    Calls Try.prog 36 #[va, vb] w fun e w' => ∃ v L, e = .returned v ∧ Ri w' v L ∧ PtsOf (a ++ b) L ∧ L.length ≤ 2 * (a.length + b.length) ∧ Below w.heap.size w w' := by
  obtain ⟨A, c, rfl, hc, hr⟩ := ha
  obtain ⟨B, d, rfl, hd, hr'⟩ := hb
  obtain ⟨v1, w1, hrun1, ho1, hb1, _⟩ := app_ref w.heap.size _ [] a A c _ (own_emptyR w) (Kd.C_below hr ((Below.refl _ _).alloc (Nat.le_refl _) _)) (by simp) (by simp; omega)
  have hbw1 : Below w.heap.size w w1 := ((Below.refl _ _).alloc (Nat.le_refl _) (.cells #[] 53)).trans hb1
  obtain ⟨v2, w2, hrun2, ho2, hb2, _⟩ := app_ref w.heap.size v1 ([] ++ a) b B d w1 ho1 (Kd.C_below hr' hbw1) hbw1.size (by simp; omega)
  rw [List.nil_append] at ho2
  have HRun1 := Lib.hid hrun1
  have HRun2 := Lib.hid hrun2
  have HB2 := Lib.hid (hbw1.trans hb2)
  have hll : (a ++ b).length ≤ 2000 := by rw [List.length_append]; exact hl
  have hle : (a ++ b).length = a.length + b.length := List.length_append
  obtain ⟨Al, cl, rfl, hcl, hrl⟩ := ho2.rd
  have hz : Kd.C k53 w (some ⟨0, 0, none⟩) 0 [] → True := fun _ => trivial
  generalize hlg : a ++ b = l at *
  have HL := Lib.hid hrl
  rw [← hle]
  clear hr hr' hrun1 hrun2 ho1 ho2 hb1 hb2 hbw1 hrl hz hlg hle
  go_enter Try.func36, Try.ntmps36
  go_wp2_with (first | ((with_reducible refine gate_builtin (b := .append) (xs := #[.tmp 11, .tmp 12]) rfl ?_); refine wpl_append rfl (.tmp 11) (.tmp 12) 24 24 rfl _ _ _ _ rfl rfl HRun1.out ?_) | ((with_reducible refine gate_builtin (b := .append) (xs := #[.tmp 13, .tmp 14]) rfl ?_); refine wpl_append rfl (.tmp 13) (.tmp 14) 24 24 rfl _ _ _ _ rfl rfl HRun2.out ?_))
  go_loopw [7, 5] (fun i ov wr => ∃ (k : Nat) (A0 : Option Addr) (c0 : Nat) (L : List Int), k ≤ l.length ∧ i = .int .i64 k ∧ ov = .slice A0 L.length c0 ∧ L.length ≤ c0 ∧ Kd.C kI wr A0 L.length L ∧ PtsOf (l.take k) L ∧ L.length ≤ 2 * k ∧ Below w2.heap.size w2 wr) (fun i _ _ => l.length - (intOf i).toNat)
  case atStart => exact ⟨0, none, 0, [], Nat.zero_le _, rfl, rfl, Nat.le_refl _, Kd.C_nil kI _, ⟨List.Pairwise.nil, by simp⟩, by simp, Below.refl _ _⟩
  case round =>
    obtain ⟨k, A0, c0, L, hk, rfl, rfl, hL0, hL1, hP, hLk, hbw⟩ := hrel
    clear HRun1 HRun2
    by_cases hlt : k < l.length
    · obtain ⟨ad, rfl, q0, q1⟩ := at_T53 (Kd.C_below HL.out hbw) (k : Int) (by omega) (by omega)
      rw [rd53 l k hlt, Int.toNat_natCast] at q0 q1
      obtain ⟨x, hx⟩ : ∃ x, l[k] = x := ⟨_, rfl⟩
      rw [hx] at q0 q1
      have q0' : wr.cell? (ad.add (k * 2)) = some (.int .i64 x.f0) := q0
      have q1' : wr.cell? ⟨(ad.add (k * 2)).block, (ad.add (k * 2)).off + 1, none⟩ = some (.int .i64 x.f1) := q1
      have a0 : ∀ o, (wr.alloc o).cell? (ad.add (k * 2)) = some (.int .i64 x.f0) := fun o => (((Below.refl wr.heap.size wr).alloc (Nat.le_refl _) o).cell (World.block_lt_of_cell? wr _ q0')).trans q0'
      have a1 : ∀ o, (wr.alloc o).cell? ⟨(ad.add (k * 2)).block, (ad.add (k * 2)).off + 1, none⟩ = some (.int .i64 x.f1) := fun o => (((Below.refl wr.heap.size wr).alloc (Nat.le_refl _) o).cell (World.block_lt_of_cell? wr _ q1')).trans q1'
      have HP := Lib.hid hP
      have HBw := Lib.hid hbw
      have HL1 := Lib.hid hL1
      have Hx := Lib.hid hx
      clear hP hbw hL1 hx q0 q1
      go_wp2_with fail
      go_region
      have hba : Below wr.heap.size wr (wr.alloc (.cells #[.int .i64 x.f0, .int .i64 x.f1] 3)).drew := ((Below.refl _ _).alloc (Nat.le_refl _) _).drew
      have hnew : (wr.alloc (.cells #[.int .i64 x.f0, .int .i64 x.f1] 3)).drew.heap[wr.heap.size]? = some (.cells #[.int .i64 x.f0, .int .i64 x.f1] 3 (0, 0)) := heap_alloc_new wr _
      have s0 : (wr.alloc (.cells #[.int .i64 x.f0, .int .i64 x.f1] 3)).drew.cell? ⟨wr.heap.size, 0, none⟩ = some (.int .i64 x.f0) := cell_of_row _ _ 0 _ _ _ hnew
      have s1 : (wr.alloc (.cells #[.int .i64 x.f0, .int .i64 x.f1] 3)).drew.cell? ⟨wr.heap.size, 1, none⟩ = some (.int .i64 x.f1) := cell_of_row _ _ 1 _ _ _ hnew
      have hsz : wr.heap.size < (wr.alloc (.cells #[.int .i64 x.f0, .int .i64 x.f1] 3)).drew.heap.size := by simp
      have HLd := Lib.hid (Kd.C_below HL1.out hba)
      have HBd := Lib.hid (HBw.out.trans (hba.mono HBw.out.size))
      clear a0 a1 q0' q1' hnew hba HL1 HBw
      generalize (wr.alloc (.cells #[.int .i64 x.f0, .int .i64 x.f1] 3)).drew = wd at s0 s1 hsz HLd HBd ⊢
      have HE : Hid (∀ j : Nat, j < 2 → wd.cell? ((⟨wr.heap.size, 0, none⟩ : Addr).add j) = some (.int .i64 (if j = 0 then x.f0 else x.f1))) := Lib.hid (by
        intro j hj
        rcases (show j = 0 ∨ j = 1 by omega) with rfl | rfl
        · simpa [Addr.add] using s0
        · simpa [Addr.add] using s1)
      clear s0 s1
      generalize hade : (⟨wr.heap.size, 0, none⟩ : Addr) = ade at HE ⊢
      have hadb : ade.block < wd.heap.size := by rw [← hade]; exact hsz
      clear hade hsz
      go_wp2_with fail
      go_loopw [9, 5] (fun jv ov w3 => ∃ (j : Nat) (A3 : Option Addr) (c3 : Nat) (L3 : List Int), j ≤ 2 ∧ jv = .int .i64 j ∧ ov = .slice A3 L3.length c3 ∧ L3.length ≤ c3 ∧ Kd.C kI w3 A3 L3.length L3 ∧ (L3.Pairwise (· < ·) ∧ ∀ y, y ∈ L3 ↔ (y ∈ L ∨ (0 < j ∧ y = x.f0) ∨ (1 < j ∧ y = x.f1))) ∧ L3.length ≤ 2 * k + j ∧ Below wd.heap.size wd w3) (fun jv _ _ => 2 - (intOf jv).toNat)
      case atStart => exact ⟨0, A0, c0, L, by omega, rfl, rfl, hL0, HLd.out, ⟨HP.out.1, fun y => by simp⟩, by omega, Below.refl _ _⟩
      case round =>
        obtain ⟨w3, hw3⟩ : ∃ W, W = wr := ⟨_, rfl⟩
        subst hw3
        obtain ⟨j, A3, c3, L3, hj, rfl, rfl, hL30, hL31, hP3, hLk3, hbw3⟩ := hrel
        clear HLd
        have HP3 := Lib.hid hP3
        have HB3 := Lib.hid hbw3
        have HL3 := Lib.hid hL31
        clear hP3 hbw3 hL31
        by_cases hj2 : j < 2
        · have hy := HB3.out.cell hadb
          obtain ⟨y, hyy⟩ : ∃ y, (if j = 0 then x.f0 else x.f1) = y := ⟨_, rfl⟩
          have hye := HE.out j hj2
          rw [hyy] at hye
          have HY := Lib.hid hyy
          have hyc : ∀ w4, Below wd.heap.size wd w4 → w4.cell? (ade.add j) = some (.int .i64 y) := fun w4 hb => (hb.cell (World.block_lt_of_cell? _ _ hye)).trans hye
          have HYC := Lib.hid hyc
          clear hy hye hyy hyc
          go_wp2_with fail
          go_loopw [10] (fun mv w4 => ∃ m : Nat, m ≤ L3.length ∧ mv = .int .i64 m ∧ (∀ q (hq : q < L3.length), m ≤ q → y < L3[q]) ∧ Below w3.heap.size w3 w4) (fun mv _ => (intOf mv).toNat)
          case atStart => exact ⟨L3.length, Nat.le_refl _, rfl, fun q hq h => absurd hq (by omega), Below.refl _ _⟩
          case round =>
            obtain ⟨w4, hw4⟩ : ∃ W, W = wr := ⟨_, rfl⟩
            subst hw4
            obtain ⟨m, hm, rfl, hmq, hbw4⟩ := hrel
            have HMQ := Lib.hid hmq
            have HW4 := Lib.hid hbw4
            have HB4 := Lib.hid (HB3.out.trans (hbw4.mono HB3.out.size))
            have HL4 := Lib.hid (Kd.C_below HL3.out hbw4)
            clear hmq hbw4
            have hye := HYC.out w4 HB4.out
            by_cases hm0 : m = 0
            · subst hm0
              go_wp2_with fail
              have hL3k : L3.length ≤ 100000 := by omega
              go_quiet (fail)
              go_wp2_with fail
              go_quiet (fail)
              go_wp2_with fail
              generalize hW2 : World.drewN _ _ = wx
              have HWx : Hid (Below w3.heap.size w3 wx) := Lib.hid (by
                rw [← hW2]
                exact pw_below_drewN (pw_below_drewN HW4.out _) _)
              clear hW2 hye
              have hye := HYC.out wx (HB3.out.trans (HWx.out.mono HB3.out.size))
              have s1 : ∀ W, (Instr.slice 44 (.slice A3 L3.length c3) none (some (.int .i64 0)) none).run Try.prog W = .ok (.slice A3 0 c3) W := slI_h A3 L3.length c3 0 (Nat.zero_le _)
              have s2 : ∀ W, (Instr.slice 44 (.slice A3 L3.length c3) (some (.int .i64 0)) none none).run Try.prog W = .ok (.slice (if c3 = 0 then A3 else Option.map (fun x : Addr => x.add (0 * 1)) A3) (L3.length - 0) (c3 - 0)) W := slI_l A3 L3.length c3 0 (Nat.zero_le _) hL30
              obtain ⟨P, hP⟩ : ∃ P : Option Addr, P = if c3 = 0 then A3 else Option.map (fun x : Addr => x.add (0 * 1)) A3 := ⟨_, rfl⟩
              rw [← hP] at s2
              have HPp := Lib.hid hP
              clear hP
              have HLx := Lib.hid (Kd.C_below HL3.out HWx.out)
              have HKE := Lib.hid (fun W (hB : Below wx.heap.size wx W) => HYC.out W ((HB3.out.trans (HWx.out.mono HB3.out.size)).trans (hB.mono (HB3.out.trans (HWx.out.mono HB3.out.size)).size)))
              have hl2 : (L3.take 0).length = 0 := rfl
              go_region_held3 (fun w' => w'.cell? (ade.add j) = some (.int .i64 y)) (first | go_keep | exact HKE.out _ (by assumption))
                (first
                  | ((refine step_append_run (by rfl) (.tmp 69) (.tmp 72) _ (by rfl) _ _ (by rfl) (by rfl) (ins1 wx _ _ L3 0 c3 A3 HLx.out hm hL3k (hp1 wx) (Nat.le_refl _) (bl1 wx _)) ?_; rintro p1 u1 ⟨e1, e2, e3⟩))
                  | ((refine step_append_run (by rfl) (.tmp 69) (.tmp 72) _ (by rfl) _ _ (by rfl) (by rfl) (ins1 wx _ _ L3 0 c3 A3 HLx.out hm hL3k (hp2 wx _) (Nat.le_refl _) (bl2 wx _ _)) ?_; rintro p1 u1 ⟨e1, e2, e3⟩; have e4 := cell_of_row _ _ 0 _ _ _ ((e3 _ (by simp) (by simp)).trans (hq2 wx y))))
                  | ((refine step_append_run (by rfl) (.tmp 69) (.tmp 72) _ (by rfl) _ _ (by rfl) (by rfl) (ins1 wx _ _ L3 0 c3 A3 HLx.out hm hL3k (hp3 wx _) (Nat.le_succ _) (bl2 wx _ _)) ?_; rintro p1 u1 ⟨e1, e2, e3⟩; have e4 := cell_of_row _ _ 0 _ _ _ ((e3 _ (by simp; omega) (by simp)).trans (hq3 wx y))))
                  | ((refine step_append_run (by rfl) (.tmp 73) (.tmp 78) _ (by rfl) _ _ (by rfl) (by rfl) (ins2 wx _ p1 _ y _ (OwnI.below e1 ((Below.refl _ _).alloc (Nat.le_refl _) _)) (by exact cell_of_row _ _ 0 _ _ _ (heap_alloc_new _ _)) (by repeat (first | exact e2 | apply below_alloc | apply below_drew)) (by rw [hl2]; omega)) ?_; rintro p2 u2 ⟨f1, f2⟩))
                  | ((refine step_append_run (by rfl) (.tmp 73) (.tmp 78) _ (by rfl) _ _ (by rfl) (by rfl) (ins2 wx _ p1 _ y _ e1 e4 e2 (by rw [hl2]; omega)) ?_; rintro p2 u2 ⟨f1, f2⟩))
                  | ((refine step_append_run (by rfl) (.tmp 79) (.tmp 82) _ (by rfl) _ _ (by rfl) (by rfl) (ins3 wx _ p2 _ L3 0 c3 A3 P f1 HLx.out hm hL30 HPp.out f2 (by rw [List.length_append, hl2]; simp; omega)) ?_; rintro p3 u3 ⟨g1, g2⟩))
                  | fail)
              all_goals
                obtain ⟨A5, c5, rfl, hc5, hr5⟩ := g1.rd
                have H5 := Lib.hid hr5
                have HB5 := Lib.hid ((HB3.out.trans (HWx.out.mono HB3.out.size)).trans (g2.mono (HB3.out.trans (HWx.out.mono HB3.out.size)).size))
                have hlow : ∀ r (hr : r < L3.length), r < 0 → L3[r] < y := fun r _ h => absurd h (Nat.not_lt_zero r)
                have hins := ins_sorted L3 0 y HP3.out.1 HMQ.out hlow
                have hlen : (L3.take 0 ++ [y] ++ L3.drop 0).length = L3.length + 1 := by simp
                have hmem : ∀ z, z ∈ L3.take 0 ++ [y] ++ L3.drop 0 ↔ (z ∈ L ∨ (0 < j + 1 ∧ z = x.f0) ∨ (1 < j + 1 ∧ z = x.f1)) := fun z => by
                  rw [hins.2 z, HP3.out.2 z]
                  exact step_mem j hj2 x.f0 x.f1 y HY.out (· ∈ L) z
                obtain ⟨L5, hL5⟩ : ∃ L5, L3.take 0 ++ [y] ++ L3.drop 0 = L5 := ⟨_, rfl⟩
                rw [hL5] at hc5 H5 hlen hmem hins ⊢
                have HM := Lib.hid hmem
                have HS := Lib.hid hins.1
                clear hmem hins hlow hr5 hL5 e1 e2 e3 f1 f2 g1 g2 s1 s2
                go_wp2_with fail
                exact ⟨⟨j + 1, A5, c5, L5, by omega, by go_num, rfl, hc5, H5.out, ⟨HS.out, HM.out⟩, by omega, HB5.out⟩, by simp [intOf]; omega⟩
            · obtain ⟨q, rfl⟩ : ∃ q, m = q + 1 := ⟨m - 1, by omega⟩
              have hm1 : q < L3.length := by omega
              have hmp : 0 < q + 1 := by omega
              have hL3k : L3.length ≤ 100000 := by omega
              obtain ⟨ad3, rfl, hcm⟩ := at_I HL4.out q hm1
              obtain ⟨z, hz⟩ : ∃ z, L3[q] = z := ⟨_, rfl⟩
              rw [hz] at hcm
              have HZ := Lib.hid hz
              clear hz hm0
              by_cases hgt : y < z
              · go_wp2_with fail
                go_quiet (fail)
                go_wp2_with fail
                refine ⟨⟨q, by omega, rfl, fun r hr hqr => ?_, HW4.out.trans ((pw_below_drewN (Below.refl w4.heap.size w4) _).mono HW4.out.size)⟩, by simp [intOf]⟩
                rcases Nat.eq_or_lt_of_le hqr with e | e
                · subst e
                  rw [HZ.out]
                  exact hgt
                · exact HMQ.out r hr e
              · go_wp2_with fail
                go_quiet (fail)
                go_wp2_with fail
                have hbq : ∀ n, Below w3.heap.size w3 (w4.drewN n) := fun n => HW4.out.trans ((pw_below_drewN (Below.refl w4.heap.size w4) _).mono HW4.out.size)
                by_cases hzy : z = y
                · have hne : (z != y) = false := by simpa using hzy
                  generalize hW : w4.drewN _ = wv
                  have HWv : Hid (Below w3.heap.size w3 wv) := Lib.hid (by rw [← hW]; exact hbq _)
                  clear hW hbq hye hcm
                  have hcm : wv.cell? (ad3.add q) = some (.int .i64 z) := by
                    obtain ⟨ad4, e, hc4⟩ := at_I (Kd.C_below HL3.out HWv.out) q hm1
                    cases e
                    rw [HZ.out] at hc4
                    exact hc4
                  have hye := HYC.out wv (HB3.out.trans (HWv.out.mono HB3.out.size))
                  have hwq := wrapn q L3.length hm1 hL3k
                  have hq0 := succ_ne q
                  go_quiet (fail)
                  go_wp2_with fail
                  clear hcm hye hwq hq0
                  generalize hW2 : wv.drewN _ = wx
                  have HWx : Hid (Below w3.heap.size w3 wx) := Lib.hid (by rw [← hW2]; exact HWv.out.trans ((pw_below_drewN (Below.refl wv.heap.size wv) _).mono HWv.out.size))
                  clear hW2
                  have HM := Lib.hid (fun z' : Int => by
                    rw [← step_mem j hj2 x.f0 x.f1 y HY.out (· ∈ L) z', ← HP3.out.2 z']
                    exact ⟨.inl, fun h => h.elim id fun e => by rw [e, ← hzy, ← HZ.out]; exact List.getElem_mem _⟩ : ∀ z' : Int, z' ∈ L3 ↔ (z' ∈ L ∨ (0 < j + 1 ∧ z' = x.f0) ∨ (1 < j + 1 ∧ z' = x.f1)))
                  exact ⟨⟨j + 1, _, c3, L3, by omega, by go_num, rfl, hL30, Kd.C_below HL3.out HWx.out, ⟨HP3.out.1, HM.out⟩, by omega, HB3.out.trans (HWx.out.mono HB3.out.size)⟩, by simp [intOf]; omega⟩
                · have hne : (z != y) = true := by simpa using hzy
                  generalize hW : w4.drewN _ = wv
                  have HWv : Hid (Below w3.heap.size w3 wv) := Lib.hid (by rw [← hW]; exact hbq _)
                  clear hW hbq hye hcm
                  have hcm : wv.cell? (ad3.add q) = some (.int .i64 z) := by
                    obtain ⟨ad4, e, hc4⟩ := at_I (Kd.C_below HL3.out HWv.out) q hm1
                    cases e
                    rw [HZ.out] at hc4
                    exact hc4
                  have hye := HYC.out wv (HB3.out.trans (HWv.out.mono HB3.out.size))
                  have hwq := wrapn q L3.length hm1 hL3k
                  have hq0 := succ_ne q
                  go_quiet (fail)
                  go_wp2_with fail
                  clear hcm hye hwq hq0
                  generalize hW2 : wv.drewN _ = wx
                  have HWx : Hid (Below w3.heap.size w3 wx) := Lib.hid (by rw [← hW2]; exact HWv.out.trans ((pw_below_drewN (Below.refl wv.heap.size wv) _).mono HWv.out.size))
                  clear hW2
                  have hye := HYC.out wx (HB3.out.trans (HWx.out.mono HB3.out.size))
                  have hmc : q + 1 ≤ c3 := by omega
                  have t1 : (0 : Int) ≤ (q : Int) + 1 := by omega
                  have t2 : (q : Int) + 1 ≤ (c3 : Int) := by omega
                  have t3 : (q : Int) + 1 ≤ (L3.length : Int) := by omega
                  have s1 : ∀ W, (Instr.slice 44 (.slice (some ad3) L3.length c3) none (some (.int .i64 ((q : Int) + 1))) none).run Try.prog W = .ok (.slice (some ad3) (q + 1) c3) W := slI_h (some ad3) L3.length c3 (q + 1) hmc
                  have s2 : ∀ W, (Instr.slice 44 (.slice (some ad3) L3.length c3) (some (.int .i64 ((q : Int) + 1))) none none).run Try.prog W = .ok (.slice (if c3 = q + 1 then some ad3 else Option.map (fun x : Addr => x.add ((q + 1) * 1)) (some ad3)) (L3.length - (q + 1)) (c3 - (q + 1))) W := slI_l (some ad3) L3.length c3 (q + 1) hm hL30
                  obtain ⟨P, hP⟩ : ∃ P : Option Addr, P = if c3 = q + 1 then some ad3 else Option.map (fun x : Addr => x.add ((q + 1) * 1)) (some ad3) := ⟨_, rfl⟩
                  rw [← hP] at s2
                  have HPp := Lib.hid hP
                  clear hP
                  have HLx := Lib.hid (Kd.C_below HL3.out HWx.out)
                  have HKE := Lib.hid (fun W (hB : Below wx.heap.size wx W) => HYC.out W ((HB3.out.trans (HWx.out.mono HB3.out.size)).trans (hB.mono (HB3.out.trans (HWx.out.mono HB3.out.size)).size)))
                  have hl2 : (L3.take (q + 1)).length = q + 1 := by rw [List.length_take]; omega
                  go_region_held3 (fun w' => w'.cell? (ade.add j) = some (.int .i64 y)) (first | go_keep | exact HKE.out _ (by assumption))
                    (first
                      | ((refine step_append_run (by rfl) (.tmp 69) (.tmp 72) _ (by rfl) _ _ (by rfl) (by rfl) (ins1 wx _ _ L3 (q + 1) c3 (some ad3) HLx.out hm hL3k (hp1 wx) (Nat.le_refl _) (bl1 wx _)) ?_; rintro p1 u1 ⟨e1, e2, e3⟩))
                      | ((refine step_append_run (by rfl) (.tmp 69) (.tmp 72) _ (by rfl) _ _ (by rfl) (by rfl) (ins1 wx _ _ L3 (q + 1) c3 (some ad3) HLx.out hm hL3k (hp2 wx _) (Nat.le_refl _) (bl2 wx _ _)) ?_; rintro p1 u1 ⟨e1, e2, e3⟩; have e4 := cell_of_row _ _ 0 _ _ _ ((e3 _ (by simp) (by simp)).trans (hq2 wx y))))
                      | ((refine step_append_run (by rfl) (.tmp 69) (.tmp 72) _ (by rfl) _ _ (by rfl) (by rfl) (ins1 wx _ _ L3 (q + 1) c3 (some ad3) HLx.out hm hL3k (hp3 wx _) (Nat.le_succ _) (bl2 wx _ _)) ?_; rintro p1 u1 ⟨e1, e2, e3⟩; have e4 := cell_of_row _ _ 0 _ _ _ ((e3 _ (by simp; omega) (by simp)).trans (hq3 wx y))))
                      | ((refine step_append_run (by rfl) (.tmp 73) (.tmp 78) _ (by rfl) _ _ (by rfl) (by rfl) (ins2 wx _ p1 _ y _ (OwnI.below e1 ((Below.refl _ _).alloc (Nat.le_refl _) _)) (by exact cell_of_row _ _ 0 _ _ _ (heap_alloc_new _ _)) (by repeat (first | exact e2 | apply below_alloc | apply below_drew)) (by rw [hl2]; omega)) ?_; rintro p2 u2 ⟨f1, f2⟩))
                      | ((refine step_append_run (by rfl) (.tmp 73) (.tmp 78) _ (by rfl) _ _ (by rfl) (by rfl) (ins2 wx _ p1 _ y _ e1 e4 e2 (by rw [hl2]; omega)) ?_; rintro p2 u2 ⟨f1, f2⟩))
                      | ((refine step_append_run (by rfl) (.tmp 79) (.tmp 82) _ (by rfl) _ _ (by rfl) (by rfl) (ins3 wx _ p2 _ L3 (q + 1) c3 (some ad3) P f1 HLx.out hm hL30 HPp.out f2 (by rw [List.length_append, hl2]; simp; omega)) ?_; rintro p3 u3 ⟨g1, g2⟩))
                      | fail)
                  all_goals
                    obtain ⟨A5, c5, rfl, hc5, hr5⟩ := g1.rd
                    have H5 := Lib.hid hr5
                    have HB5 := Lib.hid ((HB3.out.trans (HWx.out.mono HB3.out.size)).trans (g2.mono (HB3.out.trans (HWx.out.mono HB3.out.size)).size))
                    have hlow := low_sorted L3 (q + 1) y HP3.out.1 (by omega) hm (by show L3[q] < y; rw [HZ.out]; omega)
                    have hins := ins_sorted L3 (q + 1) y HP3.out.1 HMQ.out hlow
                    have hlen : (L3.take (q + 1) ++ [y] ++ L3.drop (q + 1)).length = L3.length + 1 := by simp; omega
                    have hmem : ∀ z, z ∈ L3.take (q + 1) ++ [y] ++ L3.drop (q + 1) ↔ (z ∈ L ∨ (0 < j + 1 ∧ z = x.f0) ∨ (1 < j + 1 ∧ z = x.f1)) := fun z => by
                      rw [hins.2 z, HP3.out.2 z]
                      exact step_mem j hj2 x.f0 x.f1 y HY.out (· ∈ L) z
                    obtain ⟨L5, hL5⟩ : ∃ L5, L3.take (q + 1) ++ [y] ++ L3.drop (q + 1) = L5 := ⟨_, rfl⟩
                    rw [hL5] at hc5 H5 hlen hmem hins ⊢
                    have HM := Lib.hid hmem
                    have HS := Lib.hid hins.1
                    clear hmem hins hlow hr5 hL5 e1 e2 e3 f1 f2 g1 g2 s1 s2
                    go_wp2_with fail
                    exact ⟨⟨j + 1, A5, c5, L5, by omega, by go_num, rfl, hc5, H5.out, ⟨HS.out, HM.out⟩, by omega, HB5.out⟩, by simp [intOf]; omega⟩
        · obtain rfl : j = 2 := by omega
          have HPn := Lib.hid (pts_succ l k x L L3 hlt Hx.out HP.out HP3.out)
          have HBn := Lib.hid (HBd.out.trans (HB3.out.mono HBd.out.size))
          go_wp2_with fail
          go_roundw
          case rel => exact ⟨k + 1, A3, c3, L3, by omega, by go_num, rfl, hL30, HL3.out, HPn.out, by omega, HBn.out⟩
          case measure => simp [intOf]; omega
    · obtain rfl : k = l.length := by omega
      rw [List.take_length] at hP
      have HP := Lib.hid hP
      have HBw := Lib.hid (HB2.out.trans (hbw.mono HB2.out.size))
      have HL1 := Lib.hid hL1
      clear hP hbw hL1
      go_wp2_with fail
      go_ret
      exact ⟨_, L, rfl, ⟨A0, c0, rfl, hL0, HL1.out⟩, HP.out, hLk, HBw.out⟩
end Go.Proofs.Ytgiccdjgbjgdcaa.Sp
