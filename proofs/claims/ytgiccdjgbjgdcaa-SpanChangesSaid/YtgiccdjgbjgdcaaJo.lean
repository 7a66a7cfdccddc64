/- The reference's joined: the days of two sets, put together. -/
import Derived.Test.YtgiccdjgbjgdcaaKu
import Derived.Test.YtgiccdjgbjgdcaaPl
import Derived.Deep.Cut
import Derived.Deep.CutRange
import Derived.Laws.OwnMore
namespace Go.Proofs.Ytgiccdjgbjgdcaa.Sp
open Go.RowKit Go.Proofs.YtgiccdjgbjgdcaaW.PrintWords PSpanTells

theorem rin_calls (v : Value) (xs : List S51) (day : Int) (w : World) (h : Rr w v xs) (hl : xs.length ≤ 1000000) :
    Calls Try.prog 26 #[v, .int .i64 day] w fun e w' => e = .returned (.bool (inB xs day)) ∧ Below w.heap.size w w' := by
  obtain ⟨A, c, rfl, hc, hr⟩ := h
  have := annuityref06_in.calls _ A c (xs.map to53) day _ w (by rw [List.length_map]; exact hr) (by rw [List.length_map]; exact hc) (rin_eval xs hl day)
  rw [List.length_map] at this
  exact this.mono fun e w1 ⟨h1, h2⟩ => ⟨h1, below_drawn h2⟩

/-- How far the reference has come. -/
def JI (how : Int) (a b : List S51) (L : List Int) (k : Nat) (O : List S51) : Prop := (∃ h : k < L.length, Jn (Hd how a b) L[k] O) ∨ (L = [] ∧ O = [] ∧ k = 0)
theorem pts_in {xs : List S51} {L : List Int} (h : PtsOf xs L) : ∀ s ∈ xs, s.f0 ∈ L ∧ s.f1 ∈ L := fun s hs => ⟨(h.2 _).2 ⟨s, hs, .inl rfl⟩, (h.2 _).2 ⟨s, hs, .inr rfl⟩⟩
theorem ji_start (how : Int) (a b : List S51) (L : List Int) (hh : how = 0 ∨ how = 1 ∨ how = 2) (hP : PtsOf (a ++ b) L) : JI how a b L 0 [] := by
  cases L with
  | nil => exact .inr ⟨rfl, rfl, rfl⟩
  | cons y L =>
    refine .inl ⟨by simp, jn_zero _ _ fun d hd => ?_⟩
    obtain ⟨s, hs, o1, _⟩ := Hd.some_in hh hd
    have hm := (pts_in hP s hs).1
    show y ≤ d
    rcases List.mem_cons.1 hm with e | e
    · omega
    · have := (List.pairwise_cons.1 hP.1).1 _ e; omega
theorem ji_done (how : Int) (a b : List S51) (L : List Int) (k : Nat) (O : List S51) (hh : how = 0 ∨ how = 1 ∨ how = 2) (hP : PtsOf (a ++ b) L) (hk : ¬ k + 1 < L.length) (h : JI how a b L k O) : Joined how a b O := by
  rcases h with ⟨hk2, h1, h2, h3⟩ | ⟨rfl, rfl, _⟩
  · refine ⟨h1, fun d => ?_⟩
    rw [h3 d]
    refine ⟨fun h => h.2, fun hd => ⟨?_, hd⟩⟩
    obtain ⟨s, hs, _, o2⟩ := Hd.some_in hh hd
    obtain ⟨i, hi, e⟩ := List.getElem_of_mem (pts_in hP s hs).2
    rcases Nat.eq_or_lt_of_le (show i ≤ k by omega) with e2 | e2
    · subst e2; omega
    · have := List.pairwise_iff_getElem.1 hP.1 i k hi hk2 e2; omega
  · refine ⟨⟨by simp, List.Pairwise.nil⟩, fun d => ⟨fun m => absurd m (Me.nil d), fun hd => ?_⟩⟩
    obtain ⟨s, hs, _⟩ := Hd.some_in hh hd
    exact absurd (pts_in hP s hs).1 (by simp)
theorem cell_all (how : Int) (a b : List S51) (L : List Int) (k : Nat) (hP : PtsOf (a ++ b) L) (hk : k + 1 < L.length) (d : Int) (h0 : L[k] ≤ d) (h1 : d < L[k + 1]) : Hd how a b d ↔ Hd how a b L[k] := by
  have hin := pts_in hP
  unfold Hd
  rw [cell_same a L hP.1 (fun s hs => hin s (by simp [hs])) k hk d h0 h1, cell_same b L hP.1 (fun s hs => hin s (by simp [hs])) k hk d h0 h1]
theorem pts_bound {a b : List S51} {L : List Int} (hP : PtsOf (a ++ b) L) (ha : Can (-1) a) (hb : Can (-1) b) : ∀ x ∈ L, -1 < x ∧ x ≤ 87659 := by
  intro x hx
  obtain ⟨s, hs, e⟩ := (hP.2 x).1 hx
  rcases List.mem_append.1 hs with h | h
  · have := ha.1 s h; omega
  · have := hb.1 s h; omega
theorem ji_get {how : Int} {a b : List S51} {L : List Int} {k : Nat} {O : List S51} (hk : k < L.length) (h : JI how a b L k O) : Jn (Hd how a b) L[k] O := by
  rcases h with ⟨_, h⟩ | ⟨rfl, _, _⟩
  · exact h
  · simp at hk
theorem ji_skip (how : Int) (a b : List S51) (L : List Int) (k : Nat) (O : List S51) (hP : PtsOf (a ++ b) L) (hk : k + 1 < L.length) (h : Jn (Hd how a b) L[k] O) (hn : ¬ Hd how a b L[k]) : JI how a b L (k + 1) O := by
  refine .inl ⟨hk, jn_skip h ?_ fun d h0 h1 hd => hn ((cell_all how a b L k hP hk d h0 h1).1 hd)⟩
  have := List.pairwise_iff_getElem.1 hP.1 k (k + 1) (by omega) hk (by omega)
  omega
theorem ji_nil (how : Int) (a b : List S51) (L : List Int) (k : Nat) (hP : PtsOf (a ++ b) L) (ha : Can (-1) a) (hb : Can (-1) b) (hk : k + 1 < L.length) (h : Jn (Hd how a b) L[k] []) (hy : Hd how a b L[k]) : JI how a b L (k + 1) [⟨L[k], L[k + 1]⟩] := by
  have hlt := List.pairwise_iff_getElem.1 hP.1 k (k + 1) (by omega) hk (by omega)
  exact .inl ⟨hk, jn_new h (pts_bound hP ha hb _ (List.getElem_mem _)).1 hlt (pts_bound hP ha hb _ (List.getElem_mem _)).2 (fun d h0 h1 => (cell_all how a b L k hP hk d h0 h1).2 hy) (by simp)⟩
theorem ji_new (how : Int) (a b : List S51) (L : List Int) (k : Nat) (Q : List S51) (z : S51) (hP : PtsOf (a ++ b) L) (ha : Can (-1) a) (hb : Can (-1) b) (hk : k + 1 < L.length) (h : Jn (Hd how a b) L[k] (Q ++ [z])) (hy : Hd how a b L[k]) (hz : z.f1 ≠ L[k]) :
    JI how a b L (k + 1) (Q ++ [z] ++ [⟨L[k], L[k + 1]⟩]) := by
  have hlt := List.pairwise_iff_getElem.1 hP.1 k (k + 1) (by omega) hk (by omega)
  refine .inl ⟨hk, jn_new h (pts_bound hP ha hb _ (List.getElem_mem _)).1 hlt (pts_bound hP ha hb _ (List.getElem_mem _)).2 (fun d h0 h1 => (cell_all how a b L k hP hk d h0 h1).2 hy) fun x hx => ?_⟩
  rw [List.mem_append, List.mem_singleton] at hx
  rcases hx with hx | rfl
  · have g := (List.pairwise_append.1 h.1.2).2.2 x hx z (by simp)
    have b1 := h.1.1 z (by simp)
    have b2 := h.2.1 z (by simp)
    unfold Gap at g
    omega
  · exact hz
theorem ji_more (how : Int) (a b : List S51) (L : List Int) (k : Nat) (Q : List S51) (z : S51) (hP : PtsOf (a ++ b) L) (ha : Can (-1) a) (hb : Can (-1) b) (hk : k + 1 < L.length) (h : Jn (Hd how a b) L[k] (Q ++ [z])) (hy : Hd how a b L[k]) (hz : z.f1 = L[k]) :
    JI how a b L (k + 1) (Q ++ [⟨z.f0, L[k + 1]⟩]) := by
  have hlt := List.pairwise_iff_getElem.1 hP.1 k (k + 1) (by omega) hk (by omega)
  exact .inl ⟨hk, jn_more h hz hlt (pts_bound hP ha hb _ (List.getElem_mem _)).2 (fun d h0 h1 => (cell_all how a b L k hP hk d h0 h1).2 hy)⟩
/-- The last stretch's end is written anew. -/
theorem own_last (w : World) (base : Nat) (v : Value) (Q : List S51) (z : S51) (c1 : Int) (h : OwnR w base v (Q ++ [z])) :
    ∃ g cap, v = .slice (some ⟨g, 0, none⟩) (Q.length + 1) cap ∧ base ≤ g ∧ w.cell? ⟨g, Q.length * 2 + 1, none⟩ = some (.int .i64 z.f1) ∧ w.frozen? ⟨g, Q.length * 2 + 1, none⟩ = false ∧
      OwnR (w.setCell ⟨g, Q.length * 2 + 1, none⟩ (.int .i64 c1)) base v (Q ++ [⟨z.f0, c1⟩]) ∧ Below base w (w.setCell ⟨g, Q.length * 2 + 1, none⟩ (.int .i64 c1)) := by
  obtain ⟨inner, ho, hr⟩ := h
  have hlen : (Q ++ [z]).length = Q.length + 1 := by simp
  rw [hlen] at ho
  have ho' := ho
  rcases ho.2 with ⟨_, h0⟩ | ⟨g, cap, cur, rfl, hb, hh, hc1, hc2, hc3, _⟩
  · omega
  have hil : inner.length = (Q.length + 1) * 2 := ho.1
  have hz2 : (inner.drop (Q.length * 2)).take 2 = [.int .i64 z.f0, .int .i64 z.f1] := hr.2 Q.length z (by simp)
  have hat1 : inner[Q.length * 2 + 1]? = some (.int .i64 z.f1) := by
    have : ((inner.drop (Q.length * 2)).take 2)[1]? = some (.int .i64 z.f1) := by rw [hz2]; rfl
    rw [List.getElem?_take, if_pos (by omega), List.getElem?_drop] at this
    exact this
  have hcell := World.ownsRow.cellAt ho (Q.length * 2 + 1) (by omega)
  refine ⟨g, cap, rfl, hb, ?_, World.ownsRow.frozenAt ho _, ?_, ?_⟩
  · rw [hcell]; exact hat1
  · refine ⟨inner.set (Q.length * 2 + 1) (.int .i64 c1), ?_, ?_⟩
    · rw [show (Q ++ [(⟨z.f0, c1⟩ : S51)]).length = Q.length + 1 by simp]
      exact (World.ownsRow.stored ho _ _).1
    · refine ⟨by rw [List.length_set, hil]; simp, fun j p hj => ?_⟩
      show (List.take 2 (List.drop (j * 2) (inner.set (Q.length * 2 + 1) (.int .i64 c1)))) = _
      by_cases hjq : j < Q.length
      · have hj' : (Q ++ [z])[j]? = some p := by
          rw [List.getElem?_append_left hjq] at hj ⊢
          exact hj
        have := hr.2 j p hj'
        have e : List.take 2 (List.drop (j * 2) inner) = [.int .i64 p.f0, .int .i64 p.f1] := this
        rw [← e]
        apply List.ext_getElem?
        intro i
        rw [List.getElem?_take, List.getElem?_take]
        split
        · rw [List.getElem?_drop, List.getElem?_drop, List.getElem?_set_ne (by omega)]
        · rfl
      · have hjl := (List.getElem?_eq_some_iff.1 hj).1
        have hjq2 : j = Q.length := by simp at hjl; omega
        subst hjq2
        simp at hj
        subst hj
        have e0 : inner[Q.length * 2]? = some (.int .i64 z.f0) := by
          have : ((inner.drop (Q.length * 2)).take 2)[0]? = some (.int .i64 z.f0) := by rw [hz2]; rfl
          rw [List.getElem?_take, if_pos (by omega), List.getElem?_drop] at this
          exact this
        apply List.ext_getElem?
        intro i
        rw [List.getElem?_take]
        rcases i with _ | _ | i
        · rw [if_pos (by omega), List.getElem?_drop, List.getElem?_set_ne (by omega)]
          exact e0
        · rw [if_pos (by omega), List.getElem?_drop, List.getElem?_set_self (by omega)]
          rfl
        · rw [if_neg (by omega)]
          rfl
  · have hg := (World.ownsRow.stored ho (Q.length * 2 + 1) (.int .i64 c1)).2
    exact ⟨hg.os, hg.tape, hg.output, hg.size, fun k hk => Below.heap_setCell w ⟨g, Q.length * 2 + 1, none⟩ _ k (by show k ≠ g; omega)⟩

theorem own_last2 (w : World) (base g n cap : Nat) (Q : List S51) (z : S51) (c1 : Int) (h : OwnR w base (.slice (some ⟨g, 0, none⟩) n cap) (Q ++ [z])) :
    OwnR (w.setCell ⟨g, Q.length * 2 + 1, none⟩ (.int .i64 c1)) base (.slice (some ⟨g, 0, none⟩) n cap) (Q ++ [⟨z.f0, c1⟩]) ∧ Below base w (w.setCell ⟨g, Q.length * 2 + 1, none⟩ (.int .i64 c1)) := by
  obtain ⟨g', cap', hv, _, _, _, h1, h2⟩ := own_last w base _ Q z c1 h
  injection hv with hv1 hv2 hv3
  injection hv1 with hv1
  injection hv1 with hv1
  subst hv1
  exact ⟨h1, h2⟩
theorem appR1 (w0 W : World) (base : Nat) (v : Value) (xs : List S51) (F T : Int) (b : Nat) (HO : OwnR W base v xs) (hb : W.heap[b]? = some (.cells #[.int .i64 F, .int .i64 T] 53 (0, 0))) (hB : Below base w0 W) (hbase : base ≤ W.heap.size) (hl : xs.length ≤ 100000) :
    ∃ v1 w1, (∀ ty, (Builtin.append_ #[24, 24] ty #[v, .slice (some ⟨b, 0, none⟩) 1 1]).run Try.prog W = .ok v1 w1) ∧ (OwnR w1 base v1 (xs ++ [⟨F, T⟩]) ∧ Below base w0 w1) := by
  have hr : Kd.C k53 W (some ⟨b, 0, none⟩) [(⟨F, T⟩ : S51)].length ([(⟨F, T⟩ : S51)].map to53) := by
    refine ⟨rfl, by simp, fun _ => ⟨_, rfl, fun j p hj => ?_⟩⟩
    have h0 : j = 0 := by
      rcases j with _ | j
      · rfl
      · simp at hj
    subst h0
    simp at hj
    subst hj
    refine ⟨[.int .i64 F, .int .i64 T], rfl, k53_mk _ _, fun i u hu => ?_⟩
    rcases i with _ | _ | i
    · simp at hu
      subst hu
      exact cell_of_row _ _ 0 _ _ _ hb
    · simp at hu
      subst hu
      exact cell_of_row _ _ 1 _ _ _ hb
    · simp at hu
  obtain ⟨v1, w1, h1, h2, h3, _⟩ := app_ref base v xs [⟨F, T⟩] _ 1 W HO hr hbase (by simp; omega)
  exact ⟨v1, w1, h1, h2, hB.trans h3⟩
theorem two_cells {w1 W : World} {ad : Addr} {L : List Int} {k : Nat} {y y2 : Int} (hr : Kd.C kI w1 (some ad) L.length L) (hB : Below w1.heap.size w1 W) (hk : k + 1 < L.length) (hy : L[k] = y) (hy2 : L[k + 1] = y2) :
    W.cell? (ad.add k) = some (.int .i64 y) ∧ W.cell? ⟨ad.block, ad.off + (k + 1), none⟩ = some (.int .i64 y2) := by
  obtain ⟨ad2, e, h1⟩ := at_I (Kd.C_below hr hB) k (by omega)
  cases e
  obtain ⟨ad3, e, h2⟩ := at_I (Kd.C_below hr hB) (k + 1) hk
  cases e
  rw [hy] at h1
  rw [hy2, show ad.add (k + 1) = ⟨ad.block, ad.off + (k + 1), none⟩ by simp [Addr.add]] at h2
  exact ⟨h1, h2⟩
theorem add_zero_off (g n : Nat) : (⟨g, 0, none⟩ : Addr).add n = ⟨g, n, none⟩ := by
  unfold Addr.add
  split <;> simp_all

set_option maxHeartbeats 4000000 in
set_option maxRecDepth 20000 in
theorem joined_calls (va vb : Value) (a b : List S51) (how : Int) (w : World) (ha : Rr w va a) (hb : Rr w vb b) (hl : a.length + b.length ≤ 2000) (hca : Can (-1) a) (hcb : Can (-1) b) (hh : how = 0 ∨ how = 1 ∨ how = 2) :
    Calls Try.prog 32 #[va, vb, .int .i64 how] w fun e w' => ∃ v O, e = .returned (.tuple #[v, .int .i64 (fewL O).2]) ∧ Rr w' v (fewL O).1 ∧ Joined how a b O ∧ Below w.heap.size w w' := by
  have HC := Lib.hid (cuts_calls va vb a b w ha hb hl)
  have HRa := Lib.hid ha
  have HRb := Lib.hid hb
  obtain ⟨A, c, rfl, hc, _⟩ := ha
  obtain ⟨B, d, rfl, hd, _⟩ := hb
  go_enter Try.func32, Try.ntmps32
  go_wp2_with fail
  refine HC.out.mono ?_
  rintro e w1 ⟨vl, L, rfl, rl, hP, hLl, b1⟩
  have HP := Lib.hid hP
  have HB1 := Lib.hid b1
  have HA1 := Lib.hid (HRa.out.below b1)
  have HBb1 := Lib.hid (HRb.out.below b1)
  obtain ⟨AL, cL, rfl, hcL, hrL⟩ := rl
  have HL := Lib.hid hrL
  have HCa := Lib.hid hca
  have HCb := Lib.hid hcb
  have hLm : L.length ≤ 4000 := by omega
  clear hP b1 hrL HC HRa HRb hca hcb
  go_wp2_with fail
  go_loopw [10, 8] (fun i ov wr => ∃ (k : Nat) (O : List S51) (A0 : Option Addr) (c0 : Nat), i = .int .i64 k ∧ ov = .slice A0 O.length c0 ∧ k ≤ L.length ∧ JI how a b L k O ∧ OwnR wr w1.heap.size (.slice A0 O.length c0) O ∧ O.length ≤ k ∧ Below w1.heap.size w1 wr) (fun i _ _ => L.length - (intOf i).toNat)
  case atStart => exact ⟨0, [], none, 0, rfl, rfl, Nat.zero_le _, ji_start how a b L hh HP.out, OwnR.nil _ _, Nat.le_refl _, Below.refl _ _⟩
  case round =>
    obtain ⟨k, O, A0, c0, rfl, rfl, hk, hJ, hO, hOk, hbw⟩ := hrel
    have HJ := Lib.hid hJ
    have HO := Lib.hid hO
    have HBw := Lib.hid hbw
    clear hJ hO hbw
    by_cases hlt : k + 1 < L.length
    · have hkl : k < L.length := by omega
      obtain ⟨ad, rfl, hci⟩ := at_I (Kd.C_below HL.out HBw.out) k hkl
      obtain ⟨y, hy⟩ : ∃ y, L[k] = y := ⟨_, rfl⟩
      rw [hy] at hci
      have HY := Lib.hid hy
      have HIa := Lib.hid (fun W (hB : Below wr.heap.size wr W) => (rin_calls _ a y W ((HA1.out.below HBw.out).below hB) (by omega)).mono (fun e w' (h : e = .returned (.bool (inB a y)) ∧ Below W.heap.size W w') => (⟨h.1, hB.trans (h.2.mono hB.size)⟩ : e = .returned (.bool (inB a y)) ∧ Below wr.heap.size wr w')))
      have HIb := Lib.hid (fun W (hB : Below wr.heap.size wr W) => (rin_calls _ b y W ((HBb1.out.below HBw.out).below hB) (by omega)).mono (fun e w' (h : e = .returned (.bool (inB b y)) ∧ Below W.heap.size W w') => (⟨h.1, hB.trans (h.2.mono hB.size)⟩ : e = .returned (.bool (inB b y)) ∧ Below wr.heap.size wr w')))
      have HKE := Lib.hid (fun W (hB : Below wr.heap.size wr W) => (hB.cell (World.block_lt_of_cell? _ _ hci)).trans hci)
      have hk1 : (0 : Int) ≤ (k : Int) := by omega
      have hk2 : (k : Int) < (L.length : Int) := by omega
      obtain ⟨ba, hba⟩ : ∃ ba, inB a y = ba := ⟨_, rfl⟩
      obtain ⟨bb, hbb⟩ : ∃ bb, inB b y = bb := ⟨_, rfl⟩
      rw [hba] at HIa
      rw [hbb] at HIb
      have HBA := Lib.hid hba
      have HBB := Lib.hid hbb
      clear hy hba hbb
      go_wp2_with fail
      go_region_held3 (fun w' => w'.cell? (ad.add k) = some (.int .i64 y)) (first | go_keep | exact HKE.out _ (by assumption))
        (first
          | ((go_at_call 26; refine (HIb.out p1 e1).mono ?_; rintro e p2 ⟨rfl, e2⟩))
          | ((go_at_call 26; refine (HIa.out wr.drew (Below.refl _ _).drew).mono ?_; rintro e p1 ⟨rfl, e1⟩)))
      have HE2 := Lib.hid e2
      have HB2 := Lib.hid (HBw.out.trans (e2.mono HBw.out.size))
      have HO2 := Lib.hid (HO.out.below e2)
      clear e1 e2 hci HIa HIb HKE
      go_upto_region 7 with fail
      go_cut [68] from 17 to 108 (fun s W => s = .bool (!keepB how ba bb) ∧ W = p2)
      case first =>
        clear HJ HO2 HB2
        rcases hh with rfl | rfl | rfl <;> cases ba <;> cases bb <;> (go_wp2_with fail; go_meet; exact ⟨rfl, rfl⟩)
      case rest =>
        obtain ⟨rfl, rfl⟩ := hcut
        cases hkeep : keepB how ba bb with
        | false =>
          have HN := Lib.hid (ji_skip how a b L k O HP.out hlt (ji_get hkl HJ.out) (by unfold Hd; rw [HY.out, HBA.out, HBB.out, hkeep]; decide))
          go_wp2_with fail
          exact ⟨⟨k + 1, O, A0, c0, by go_num, rfl, by omega, HN.out, HO2.out, by omega, HB2.out⟩, by simp [intOf]; omega⟩
        | true =>
          have hyes : Hd how a b L[k] := by unfold Hd; rw [HY.out, HBA.out, HBB.out, hkeep]
          have hjn := ji_get hkl HJ.out
          have HYes := Lib.hid hyes
          have HJn := Lib.hid hjn
          obtain ⟨y2, hy2⟩ : ∃ y2, L[k + 1] = y2 := ⟨_, rfl⟩
          have HY2 := Lib.hid hy2
          clear hyes hjn hy2 HJ hkeep HBA HBB HE2
          rcases List.eq_nil_or_concat O with hO0 | ⟨Q, z, hO0⟩
          · subst hO0
            have HN := Lib.hid (ji_nil how a b L k HP.out HCa.out HCb.out hlt HJn.out HYes.out)
            rw [HY2.out, HY.out] at HN
            go_wp2_with fail
            go_quiet (fail)
            go_wp2_with fail
            generalize hW2 : World.drewN _ _ = wx
            have HWx : Hid (Below w1.heap.size w1 wx) := Lib.hid (by rw [← hW2]; exact pw_below_drewN HB2.out _)
            have HOx : Hid (OwnR wx w1.heap.size (.slice A0 0 c0) []) := Lib.hid (by rw [← hW2]; exact by exact HO2.out.below (pw_below_drewN (Below.refl _ _) _))
            clear hW2
            obtain ⟨ad4, e, hci⟩ := at_I (Kd.C_below HL.out HWx.out) k hkl
            cases e
            rw [HY.out] at hci
            obtain ⟨ad3, e, hci1⟩ := at_I (Kd.C_below HL.out HWx.out) (k + 1) hlt
            cases e
            rw [HY2.out, show ad.add (k + 1) = ⟨ad.block, ad.off + (k + 1), none⟩ by simp [Addr.add]] at hci1
            have t1 : (0 : Int) ≤ (k : Int) + 1 := by omega
            have t2 : (k : Int) + 1 < (L.length : Int) := by omega
            have hwk : IntKind.i64.wrap ((k : Int) + 1) = (k : Int) + 1 := wrapn (k + 1) L.length hlt (by omega)
            have HKx := Lib.hid (fun W (hB : Below w1.heap.size w1 W) => two_cells HL.out hB hlt HY.out HY2.out)
            go_region_held3 (fun w' => w'.cell? (ad.add k) = some (.int .i64 y) ∧ w'.cell? ⟨ad.block, ad.off + (k + 1), none⟩ = some (.int .i64 y2)) (first | go_keep | exact HKx.out _ (by assumption))
              (first
                | ((refine step_append_run (by rfl) (.tmp 96) (.tmp 107) _ (by rfl) _ _ (by rfl) (by rfl) (appR1 w1 _ w1.heap.size _ [] y y2 _ (OwnR.below HOx.out (by repeat (first | exact Below.refl _ _ | apply below_alloc | apply below_drew))) (heap_alloc_new _ _) (by repeat (first | exact HWx.out | apply below_alloc | apply below_drew)) (by have := HWx.out.size; simp; omega) (by simp)) ?_; rintro p3 u3 ⟨e3, e4⟩)))
            obtain ⟨A5, c5, rfl, hc5, _⟩ := OwnR.rd e3
            have HO3 := Lib.hid e3
            have HB3 := Lib.hid e4
            clear e3 e4 hci hci1
            go_wp2_with fail
            exact ⟨⟨k + 1, [⟨y, y2⟩], A5, c5, by go_num, rfl, by omega, HN.out, HO3.out, by simp, HB3.out⟩, by simp [intOf]; omega⟩
          · rw [List.concat_eq_append] at hO0
            subst hO0
            obtain ⟨g, cap, hv, hbg, hcz, hfz, hos, hbs⟩ := own_last _ _ _ Q z y2 HO2.out
            have hlq : (Q ++ [z]).length = Q.length + 1 := by simp
            rw [hlq] at hv
            injection hv with hv1 hv2 hv3
            subst hv1 hv3
            rw [hlq]
            obtain ⟨ad2, e, hci⟩ := at_I (Kd.C_below HL.out HB2.out) k hkl
            cases e
            rw [HY.out] at hci
            have hqw := wrapn Q.length (Q.length + 1) (by omega) (by omega)
            have hq0 : 0 < Q.length + 1 := by omega
            have hadd : (⟨g, 0, none⟩ : Addr).add (Q.length * 2) = ⟨g, Q.length * 2, none⟩ := add_zero_off _ _
            obtain ⟨ad3, e, hci1⟩ := at_I (Kd.C_below HL.out HB2.out) (k + 1) hlt
            cases e
            rw [HY2.out, show ad.add (k + 1) = ⟨ad.block, ad.off + (k + 1), none⟩ by simp [Addr.add]] at hci1
            have HOs := Lib.hid (fun n => own_last2 (wc.drewN n) _ g _ _ Q z y2 (HO2.out.below (pw_below_drewN (Below.refl _ _) n)))
            rw [hlq] at HOs
            have HBn := Lib.hid (fun n => pw_below_drewN HB2.out n)
            clear hos hbs
            by_cases hzy : z.f1 = y
            · have hze : (z.f1 == y) = true := by simpa using hzy
              have HN := Lib.hid (ji_more how a b L k Q z HP.out HCa.out HCb.out hlt HJn.out HYes.out (by rw [HY.out]; exact hzy))
              rw [HY2.out] at HN
              have hlq2 : (Q ++ [(⟨z.f0, y2⟩ : S51)]).length = Q.length + 1 := by simp
              go_wp2_with fail
              go_quiet (fail)
              go_wp2_with fail
              exact ⟨⟨k + 1, Q ++ [⟨z.f0, y2⟩], some ⟨g, 0, none⟩, c0, by go_num, by rw [hlq2], by omega, HN.out, by rw [hlq2]; exact (HOs.out _).1, by rw [hlq2]; omega, (HBn.out _).trans ((HOs.out _).2)⟩, by simp [intOf]; omega⟩
            · have hze : (z.f1 == y) = false := by simpa using hzy
              have HN := Lib.hid (ji_new how a b L k Q z HP.out HCa.out HCb.out hlt HJn.out HYes.out (by rw [HY.out]; exact hzy))
              rw [HY2.out, HY.out] at HN
              go_wp2_with fail
              go_quiet (fail)
              go_wp2_with fail
              generalize hW2 : World.drewN _ _ = wx
              have HWx : Hid (Below w1.heap.size w1 wx) := Lib.hid (by rw [← hW2]; exact pw_below_drewN HB2.out _)
              have HOx : Hid (OwnR wx w1.heap.size (.slice (some ⟨g, 0, none⟩) (Q.length + 1) c0) (Q ++ [z])) := Lib.hid (by rw [← hW2]; exact by rw [← hlq]; exact HO2.out.below (pw_below_drewN (Below.refl _ _) _))
              clear hW2 hci hci1 hcz hfz hadd hqw hze
              obtain ⟨ad4, e, hci⟩ := at_I (Kd.C_below HL.out HWx.out) k hkl
              cases e
              rw [HY.out] at hci
              obtain ⟨ad3, e, hci1⟩ := at_I (Kd.C_below HL.out HWx.out) (k + 1) hlt
              cases e
              rw [HY2.out, show ad.add (k + 1) = ⟨ad.block, ad.off + (k + 1), none⟩ by simp [Addr.add]] at hci1
              have t1 : (0 : Int) ≤ (k : Int) + 1 := by omega
              have t2 : (k : Int) + 1 < (L.length : Int) := by omega
              have hwk : IntKind.i64.wrap ((k : Int) + 1) = (k : Int) + 1 := wrapn (k + 1) L.length hlt (by omega)
              have HKx := Lib.hid (fun W (hB : Below w1.heap.size w1 W) => two_cells HL.out hB hlt HY.out HY2.out)
              go_region_held3 (fun w' => w'.cell? (ad.add k) = some (.int .i64 y) ∧ w'.cell? ⟨ad.block, ad.off + (k + 1), none⟩ = some (.int .i64 y2)) (first | go_keep | exact HKx.out _ (by assumption))
                (first
                  | ((refine step_append_run (by rfl) (.tmp 96) (.tmp 107) _ (by rfl) _ _ (by rfl) (by rfl) (appR1 w1 _ w1.heap.size _ (Q ++ [z]) y y2 _ (OwnR.below HOx.out (by repeat (first | exact Below.refl _ _ | apply below_alloc | apply below_drew))) (heap_alloc_new _ _) (by repeat (first | exact HWx.out | apply below_alloc | apply below_drew)) (by have := HWx.out.size; simp; omega) (by simp at hOk ⊢; omega)) ?_; rintro p3 u3 ⟨e3, e4⟩)))
              obtain ⟨A5, c5, rfl, hc5, _⟩ := OwnR.rd e3
              have HO3 := Lib.hid e3
              have HB3 := Lib.hid e4
              clear e3 e4 hci hci1
              go_wp2_with fail
              exact ⟨⟨k + 1, Q ++ [z] ++ [⟨y, y2⟩], A5, c5, by go_num, rfl, by omega, HN.out, HO3.out, by simp at hOk ⊢; omega, HB3.out⟩, by simp [intOf]; omega⟩
    · have HJo := Lib.hid (ji_done how a b L k O hh HP.out hlt HJ.out)
      have HR := Lib.hid (HO.out.rd)
      have HBb := Lib.hid (HB1.out.trans (HBw.out.mono HB1.out.size))
      have hle : ¬ L.length > k + 1 := by omega
      have hOl : O.length ≤ 4000 := by omega
      by_cases hm : 1000 < O.length
      · have hm2 : (1000 : Int) < (O.length : Int) := by omega
        have hf : fewL O = ([], 3) := by unfold fewL; rw [if_pos hm]
        go_wp2_with fail
        go_ret2
        exact ⟨.slice none 0 0, O, by rw [hf]; rfl, by rw [hf]; exact ⟨none, 0, rfl, Nat.le_refl _, Kd.C_nil k53 _⟩, HJo.out, HBb.out⟩
      · have hm2 : ¬ (1000 : Int) < (O.length : Int) := by omega
        have hf : fewL O = (O, 0) := by unfold fewL; rw [if_neg hm]
        go_wp2_with fail
        go_ret2
        exact ⟨.slice A0 O.length c0, O, by rw [hf]; rfl, by rw [hf]; exact HR.out, HJo.out, HBb.out⟩
end Go.Proofs.Ytgiccdjgbjgdcaa.Sp
