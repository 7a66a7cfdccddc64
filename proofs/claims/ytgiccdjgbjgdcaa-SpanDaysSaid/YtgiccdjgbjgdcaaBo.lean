/- span.Both. -/
import Derived.Test.YtgiccdjgbjgdcaaCu
import Derived.Deep.Cut
import Derived.Deep.CutRange
import Derived.BigQuiet
namespace Go.Proofs.Ytgiccdjgbjgdcaa.Sp
open Go.RowKit Go.Proofs.YtgiccdjgbjgdcaaW.PrintWords PSpanTells

def meet (a b : S51) : S51 := ⟨if a.f0 < b.f0 then b.f0 else a.f0, if b.f1 < a.f1 then b.f1 else a.f1⟩
def meetL (a b : S51) : List S51 := if (meet a b).f0 < (meet a b).f1 then [meet a b] else []
def bothL : List S51 → List S51 → List S51
  | [], _ => []
  | _ :: _, [] => []
  | a :: al, b :: bl => meetL a b ++ (if a.f1 < b.f1 then bothL al (b :: bl) else bothL (a :: al) bl)
termination_by al bl => al.length + bl.length
def bothF (al bl : List S51) : List S51 × Int := if goodB al = true ∧ goodB bl = true then fewL (bothL al bl) else ([], 11)
def vlen : Value → Nat
  | .slice _ n _ => n
  | _ => 0
theorem sl_l1 (A : Option Addr) (n c : Nat) (h : 1 ≤ n) (W : World) : (Instr.slice 22 (.slice A n c) (some (.int .i64 1)) none none).run Try.prog W = .ok (.slice (if c = 1 then A else A.map (·.add (1 * 2))) (n - 1) (c - 1)) W := by
  have hu : Try.prog.underlying 22 = some (.slice (Try.prog.elem 22)) := by rw [el22]; exact Try.underlying22
  rw [run_slice_l W 22 A n c hu .i64 1 (by omega) (by omega), el22]
  have hz : (sizeOf 51).run Try.prog W = .ok 2 W := by kernel_rfl
  rw [hz]
  simp [sliced, Result.andThen]
theorem Rd.tail {w : World} {A : Option Addr} {c : Nat} {a : S51} {al : List S51} (hc : (a :: al).length ≤ c) (hr : Kd.C k51 w A (a :: al).length (a :: al)) : Rd w (.slice (if c = 1 then A else A.map (·.add (1 * 2))) al.length (c - 1)) al := by
  have h := Kd.C_drop hr (m := 1) (by simp) hc
  exact ⟨_, _, rfl, by simp at hc ⊢; omega, h⟩
theorem sl_l2 (A : Option Addr) (n c : Nat) (W : World) : (Instr.slice 22 (.slice A (n + 1) c) (some (.int .i64 1)) none none).run Try.prog W = .ok (.slice (if c = 1 then A else A.map (·.add (1 * 2))) n (c - 1)) W := sl_l1 A (n + 1) c (by omega) W
theorem head_cells {w : World} {A : Option Addr} {a : S51} {al : List S51} (hr : Kd.C k51 w A (a :: al).length (a :: al)) : ∃ ad, A = some ad ∧ w.cell? ad = some (.int .i64 a.f0) ∧ w.cell? ⟨ad.block, ad.off + 1, none⟩ = some (.int .i64 a.f1) := by
  obtain ⟨ad, rfl, c0, c1⟩ := at_T51 hr 0 (by omega) (by simp only [List.length_cons]; omega)
  have e : ad.add ((0 : Int).toNat * 2) = ad := by simp [Addr.add]
  rw [e] at c0 c1
  exact ⟨ad, rfl, c0, c1⟩
theorem both_len : ∀ (n : Nat) (al bl : List S51), al.length + bl.length ≤ n → (bothL al bl).length ≤ al.length + bl.length := by
  intro n
  induction n with
  | zero =>
    intro al bl h
    cases al with
    | nil => simp [bothL]
    | cons a al => simp at h
  | succ n ih =>
    intro al bl h
    cases al with
    | nil => simp [bothL]
    | cons a al =>
      cases bl with
      | nil => simp [bothL]
      | cons b bl =>
        have hm : (meetL a b).length ≤ 1 := by unfold meetL; split <;> simp
        rw [bothL, List.length_append]
        by_cases hlt : a.f1 < b.f1
        · rw [if_pos hlt]
          have := ih al (b :: bl) (by simp only [List.length_cons] at h ⊢; omega)
          simp only [List.length_cons] at this ⊢
          omega
        · rw [if_neg hlt]
          have := ih (a :: al) bl (by simp only [List.length_cons] at h ⊢; omega)
          simp only [List.length_cons] at this ⊢
          omega

set_option maxHeartbeats 2000000 in
theorem Both_calls (A B : Option Addr) (c d : Nat) (xs ys : List S51) (w : World) (hr : Kd.C k51 w A xs.length xs) (hc : xs.length ≤ c) (hr' : Kd.C k51 w B ys.length ys) (hd : ys.length ≤ d) :
    Calls Try.prog 21 #[.slice A xs.length c, .slice B ys.length d] w fun e w' => ∃ v, e = .returned (.tuple #[v, .int .i64 (bothF xs ys).2]) ∧ Rd w' v (bothF xs ys).1 ∧ Below w.heap.size w w' := by
  have HG1 := Lib.hid (Good_calls A c xs w hr hc)
  have HG2 := Lib.hid (fun w1 (hb : Below w.heap.size w w1) => Good_calls B d ys w1 (Kd.C_below hr' hb) hd)
  unfold bothF
  by_cases hg : goodB xs = true ∧ goodB ys = true
  · rw [if_pos hg]
    obtain ⟨g1, g2⟩ := hg
    have hlen : xs.length ≤ 1000 := by
      have := g1
      simp only [goodB, Bool.and_eq_true, decide_eq_true_eq] at this
      exact this.1
    have hlen2 : ys.length ≤ 1000 := by
      have := g2
      simp only [goodB, Bool.and_eq_true, decide_eq_true_eq] at this
      exact this.1
    have G1 := Lib.hid g1
    have G2 := Lib.hid g2
    have HA := Lib.hid (show Rd w (.slice A xs.length c) xs from ⟨A, c, rfl, hc, hr⟩)
    have HB := Lib.hid (show Rd w (.slice B ys.length d) ys from ⟨B, d, rfl, hd, hr'⟩)
    clear hr hr' g1 g2
    go_enter Try.func21, Try.ntmps21
    go_wp2_with fail
    refine HG1.out.mono ?_
    rw [G1.out]
    rintro e w1 ⟨rfl, b1⟩
    have HW1 := Lib.hid b1
    clear b1 HG1
    go_wp2_with fail
    refine (HG2.out w1 HW1.out).mono ?_
    rw [G2.out]
    rintro e w2 ⟨rfl, b2⟩
    have HW2 := Lib.hid (HW1.out.trans (b2.mono HW1.out.size))
    clear b2 HG2 HW1
    have HA2 := Lib.hid (HA.out.below HW2.out)
    have HB2 := Lib.hid (HB.out.below HW2.out)
    have HO := Lib.hid (Own.nil w2 w2.heap.size)
    clear HA HB
    go_wp2_with fail
    go_loopw [0, 1, 6] (fun va vb vl wr => ∃ (al bl out : List S51) (vv : Value), Rd w2 va al ∧ Rd w2 vb bl ∧ vl = vv ∧ Own wr w2.heap.size vv out ∧ out ++ bothL al bl = bothL xs ys ∧ Below w2.heap.size w2 wr) (fun va vb _ _ => vlen va + vlen vb)
    case atStart => exact ⟨xs, ys, [], _, HA2.out, HB2.out, rfl, HO.out, rfl, Below.refl _ _⟩
    case round =>
      obtain ⟨al, bl, out, vv, ra, rb, hvv, ho, heq, hb⟩ := hrel
      have hvv2 := hvv.symm
      clear hvv
      subst hvv2
      clear HO HA2 HB2
      obtain ⟨A1, c1, rfl, hc1, r1⟩ := ra
      obtain ⟨B1, d1, rfl, hd1, r2⟩ := rb
      cases al with
      | nil =>
        have hfin : out = bothL xs ys := by rw [← heq, show bothL [] bl = [] from by simp [bothL]]; simp
        have HO := Lib.hid ho
        have HBl := Lib.hid hb
        subst hfin
        have hrd := ho.rd
        obtain ⟨Av, cv, hvv3, _⟩ := hrd
        subst hvv3
        have HF := Lib.hid (few_calls _ _ wr ho.rd)
        clear ho hb heq r1 r2
        go_wp2_with fail
        refine HF.out.mono ?_
        rintro e w3 ⟨v3, rfl, r3, b3⟩
        have HR3 := Lib.hid r3
        have HB3 := Lib.hid ((HW2.out.trans (HBl.out.mono HW2.out.size)).trans (b3.mono (HW2.out.trans (HBl.out.mono HW2.out.size)).size))
        clear r3 b3 HF
        obtain ⟨er, her⟩ : ∃ er, (fewL (bothL xs ys)).2 = er := ⟨_, rfl⟩
        rw [her]
        have Her := Lib.hid her
        clear her
        go_wp2_with fail
        go_ret2
        exact ⟨v3, by rw [Her.out]; rfl, HR3.out, HB3.out⟩
      | cons a al =>
        cases bl with
        | nil =>
          have hfin : out = bothL xs ys := by rw [← heq, show bothL (a :: al) [] = [] from by simp [bothL]]; simp
          have HO := Lib.hid ho
          have HBl := Lib.hid hb
          subst hfin
          have hrd := ho.rd
          obtain ⟨Av, cv, hvv3, _⟩ := hrd
          subst hvv3
          have HF := Lib.hid (few_calls _ _ wr ho.rd)
          clear ho hb heq r1 r2
          go_wp2_with fail
          refine HF.out.mono ?_
          rintro e w3 ⟨v3, rfl, r3, b3⟩
          have HR3 := Lib.hid r3
          have HB3 := Lib.hid ((HW2.out.trans (HBl.out.mono HW2.out.size)).trans (b3.mono (HW2.out.trans (HBl.out.mono HW2.out.size)).size))
          clear r3 b3 HF
          obtain ⟨er, her⟩ : ∃ er, (fewL (bothL xs ys)).2 = er := ⟨_, rfl⟩
          rw [her]
          have Her := Lib.hid her
          clear her
          go_wp2_with fail
          go_ret2
          exact ⟨v3, by rw [Her.out]; rfl, HR3.out, HB3.out⟩
        | cons b bl =>
          obtain ⟨ad, rfl, p0, p1⟩ := head_cells (Kd.C_below r1 hb)
          obtain ⟨bd, rfl, q0, q1⟩ := head_cells (Kd.C_below r2 hb)
          have a0 : ∀ o, (wr.alloc o).cell? ad = some (.int .i64 a.f0) := fun o => (((Below.refl wr.heap.size wr).alloc (Nat.le_refl _) o).cell (World.block_lt_of_cell? wr _ p0)).trans p0
          have a1 : ∀ o, (wr.alloc o).cell? ⟨ad.block, ad.off + 1, none⟩ = some (.int .i64 a.f1) := fun o => (((Below.refl wr.heap.size wr).alloc (Nat.le_refl _) o).cell (World.block_lt_of_cell? wr _ p1)).trans p1
          have b0 : ∀ o, (wr.alloc o).cell? bd = some (.int .i64 b.f0) := fun o => (((Below.refl wr.heap.size wr).alloc (Nat.le_refl _) o).cell (World.block_lt_of_cell? wr _ q0)).trans q0
          have b1 : ∀ o, (wr.alloc o).cell? ⟨bd.block, bd.off + 1, none⟩ = some (.int .i64 b.f1) := fun o => (((Below.refl wr.heap.size wr).alloc (Nat.le_refl _) o).cell (World.block_lt_of_cell? wr _ q1)).trans q1
          have HR1 := Lib.hid r1
          have HR2 := Lib.hid r2
          have HEq := Lib.hid heq
          have HBl := Lib.hid hb
          have HOw := Lib.hid ho
          clear r1 r2 heq hb ho
          go_wp2_with fail
          go_region
          have hstep : out ++ (meetL a b ++ (if a.f1 < b.f1 then bothL al (b :: bl) else bothL (a :: al) bl)) = bothL xs ys := by rw [← HEq.out, bothL]
          obtain ⟨M, hM⟩ : ∃ M, (if a.f0 < b.f0 then b.f0 else a.f0) = M := ⟨_, rfl⟩
          obtain ⟨N, hN⟩ : ∃ N, (if b.f1 < a.f1 then b.f1 else a.f1) = N := ⟨_, rfl⟩
          rw [hM, hN]
          have hml : meetL a b = if M < N then [⟨M, N⟩] else [] := by unfold meetL meet; rw [hM, hN]
          rw [hml] at hstep
          have hba : Below wr.heap.size wr (wr.alloc (.cells #[.int .i64 M, .int .i64 N] 51)).drew := ((Below.refl _ _).alloc (Nat.le_refl _) _).drew
          have hown := HOw.out.below hba
          have hbl := HBl.out.trans (hba.mono HBl.out.size)
          have hnew : (wr.alloc (.cells #[.int .i64 M, .int .i64 N] 51)).drew.heap[wr.heap.size]? = some (.cells #[.int .i64 M, .int .i64 N] 51 (0, 0)) := heap_alloc_new wr _
          have s0 : (wr.alloc (.cells #[.int .i64 M, .int .i64 N] 51)).drew.cell? ⟨wr.heap.size, 0, none⟩ = some (.int .i64 M) := cell_of_row _ _ 0 _ _ _ hnew
          have s1 : (wr.alloc (.cells #[.int .i64 M, .int .i64 N] 51)).drew.cell? ⟨wr.heap.size, 1, none⟩ = some (.int .i64 N) := cell_of_row _ _ 1 _ _ _ hnew
          clear a0 a1 b0 b1 p0 p1 q0 q1 HOw HBl HEq hml hba hnew
          generalize (wr.alloc (.cells #[.int .i64 M, .int .i64 N] 51)).drew = wd at hown hbl s0 s1 ⊢
          generalize wr.heap.size = gg at s0 s1 ⊢
          have hol : out.length ≤ 2000 := by
            have h1 := both_len _ xs ys (Nat.le_refl _)
            have h2 : out.length ≤ (bothL xs ys).length := by rw [← hstep, List.length_append]; omega
            omega
          have HOW := Lib.hid hown
          have HBL := Lib.hid hbl
          clear hM hN hown hbl
          go_upto_if 47 with fail
          go_cut [6] from 16 to 64 (fun v wx => ∃ vv' out', v = vv' ∧ Own wx w2.heap.size vv' out' ∧ out' ++ (if a.f1 < b.f1 then bothL al (b :: bl) else bothL (a :: al) bl) = bothL xs ys ∧ Below w2.heap.size w2 wx)
          case first =>
            by_cases hMN : M < N
            · rw [if_pos hMN, ← List.append_assoc] at hstep
              obtain ⟨v1, w3, hrun, ho3, hb3, _⟩ := app_one _ vv out M N wd HOW.out HBL.out.size (by omega)
              have HRun := Lib.hid hrun
              have HO3 := Lib.hid ho3
              have HB3 := Lib.hid (HBL.out.trans hb3)
              have Hs := Lib.hid hstep
              clear hrun ho3 hb3 hstep
              go_wp2_with ((with_reducible refine gate_builtin (b := .append) (xs := #[.tmp 48, .tmp 50]) rfl ?_); refine wpl_append rfl (.tmp 48) (.tmp 50) 22 22 rfl _ _ _ _ rfl rfl HRun.out ?_)
              go_meet
              exact ⟨v1, _, rfl, HO3.out, Hs.out, HB3.out⟩
            · rw [if_neg hMN, List.nil_append] at hstep
              have Hs := Lib.hid hstep
              clear hstep
              go_wp2_with fail
              go_meet
              exact ⟨vv, _, rfl, HOW.out, Hs.out, HBL.out⟩
          case rest =>
            clear hstep s0 s1 HOW HBL hol
            obtain ⟨v1, out1, rfl, ho3, hs3, hb3⟩ := hcut
            have HO3 := Lib.hid ho3
            have HB3 := Lib.hid hb3
            obtain ⟨ad2, e2, p0, p1⟩ := head_cells (Kd.C_below HR1.out hb3)
            cases e2
            obtain ⟨bd2, e3, q0, q1⟩ := head_cells (Kd.C_below HR2.out hb3)
            cases e3
            clear ho3 hb3
            have HD := Lib.hid (fun n => HB3.out.trans ((pw_below_drewN (Below.refl wc.heap.size wc) n).mono HB3.out.size))
            have HOD := Lib.hid (fun n => Own.below HO3.out (pw_below_drewN (Below.refl wc.heap.size wc) n))
            have hl1 : 1 ≤ (a :: al).length := by simp
            have hl2 : 1 ≤ (b :: bl).length := by simp
            by_cases hlt : a.f1 < b.f1
            · rw [if_pos hlt] at hs3
              have Hs := Lib.hid hs3
              have hsl := sl_l2 (some ad) al.length c1
              obtain ⟨P, hP⟩ : ∃ P : Option Addr, P = if c1 = 1 then some ad else Option.map (fun x : Addr => x.add (1 * 2)) (some ad) := ⟨_, rfl⟩
              rw [← hP] at hsl
              have HT := Lib.hid (Rd.tail hc1 HR1.out)
              rw [← hP] at HT
              clear hP hs3
              go_wp2_with fail
              go_quiet (fail)
              go_wp2_with fail
              exact ⟨⟨al, b :: bl, out1, _, HT.out, ⟨_, _, rfl, hd1, HR2.out⟩, rfl, HOD.out _, Hs.out, HD.out _⟩, by simp [vlen] <;> omega⟩
            · rw [if_neg hlt] at hs3
              have Hs := Lib.hid hs3
              have hsl := sl_l2 (some bd) bl.length d1
              obtain ⟨P, hP⟩ : ∃ P : Option Addr, P = if d1 = 1 then some bd else Option.map (fun x : Addr => x.add (1 * 2)) (some bd) := ⟨_, rfl⟩
              rw [← hP] at hsl
              have HT := Lib.hid (Rd.tail hd1 HR2.out)
              rw [← hP] at HT
              clear hP hs3
              go_wp2_with fail
              go_quiet (fail)
              go_wp2_with fail
              exact ⟨⟨a :: al, bl, out1, _, ⟨_, _, rfl, hc1, HR1.out⟩, HT.out, rfl, HOD.out _, Hs.out, HD.out _⟩, by simp [vlen] <;> omega⟩
  · rw [if_neg hg]
    cases g1 : goodB xs with
    | false =>
      go_enter Try.func21, Try.ntmps21
      go_wp2_with fail
      refine HG1.out.mono ?_
      rw [g1]
      rintro e w1 ⟨rfl, b1⟩
      have HW1 := Lib.hid b1
      clear b1 HG1 HG2 hr hr'
      go_wp2_with fail
      go_ret2
      exact ⟨_, rfl, ⟨none, 0, rfl, Nat.le_refl _, Kd.C_nil k51 _⟩, HW1.out⟩
    | true =>
      have g2 : goodB ys = false := by
        cases h : goodB ys with
        | false => rfl
        | true => exact absurd ⟨g1, h⟩ hg
      go_enter Try.func21, Try.ntmps21
      go_wp2_with fail
      refine HG1.out.mono ?_
      rw [g1]
      rintro e w1 ⟨rfl, b1⟩
      have HW1 := Lib.hid b1
      clear b1 HG1 hr hr'
      go_wp2_with fail
      refine (HG2.out w1 HW1.out).mono ?_
      rw [g2]
      rintro e w2 ⟨rfl, b2⟩
      have HW2 := Lib.hid (HW1.out.trans (b2.mono HW1.out.size))
      clear b2 HG2 HW1
      go_wp2_with fail
      go_ret2
      exact ⟨_, rfl, ⟨none, 0, rfl, Nat.le_refl _, Kd.C_nil k51 _⟩, HW2.out⟩
end Go.Proofs.Ytgiccdjgbjgdcaa.Sp
