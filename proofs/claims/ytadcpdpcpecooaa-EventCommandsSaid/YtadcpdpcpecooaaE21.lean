/- An event's bytes open as they were; what opens was an event's bytes. Plain. (Printed by gen21.py.) -/
import Derived.Test.YtadcpdpcpecooaaE12
import Derived.Test.YtadcpdpcpecooaaE19
namespace Go.Proofs.Ytadcpdpcpecooaa.Ev
open Go.RowKit Go.Proofs.Ytadcpdpcpecooaa.Pk Go.Proofs.Ytadcpdpcpecooaa.Re

theorem byteAt_range (V : Int) (k : Nat) : 0 ≤ byteAt V k ∧ byteAt V k < 256 := by unfold byteAt; omega
theorem bytesOf_range (V : Int) (n : Nat) : ∀ b ∈ bytesOf V n, 0 ≤ b ∧ b < 256 := by
  intro b hb
  simp only [bytesOf, List.mem_map] at hb
  obtain ⟨k, _, rfl⟩ := hb
  exact byteAt_range V k
theorem strOfNums_ints (s : ByteArray) : strOfNums (ints s) = s := by
  apply ByteArray.ext
  apply Array.ext'
  simp [strOfNums, ints, Function.comp_def]
theorem ints_str (l : List Int) (h : ∀ b ∈ l, 0 ≤ b ∧ b < 256) : ints (strOfNums l) = l := by
  unfold ints
  rw [strOfNums_data, List.map_map]
  conv => rhs; rw [← List.map_id l]
  apply List.map_congr_left
  intro b hb
  have := h b hb
  simp only [Function.comp, id]
  obtain ⟨n, rfl⟩ := Int.eq_ofNat_of_zero_le this.1
  simp only [Int.toNat_natCast, UInt8.toNat_ofNat']
  omega
theorem extract_pre (a b : List Int) : (strOfNums (a ++ b)).extract 0 a.length = strOfNums a := by
  apply ByteArray.ext
  apply Array.ext'
  rw [Lib.extract_data]
  simp [strOfNums_data]
theorem extract_suf (a b : List Int) : (strOfNums (a ++ b)).extract a.length (strOfNums (a ++ b)).size = strOfNums b := by
  apply ByteArray.ext
  apply Array.ext'
  rw [Lib.extract_data, strOfNums_size]
  simp [strOfNums_data, List.take_of_length_le]
theorem valOf_bytes (n : Nat) : ∀ (V : Int), 0 ≤ V → Pk.valOf (bytesOf V n) = V % 256 ^ n := by
  induction n with
  | zero => intro V h; simp [bytesOf, Pk.valOf]
  | succ n ih =>
    intro V h
    rw [bytesOf_succ, valOf_snoc, ih V h, bytesOf_length, Int.pow_succ]
    unfold byteAt
    have hp : (0 : Int) < 256 ^ n := Int.pow_pos (by omega)
    generalize (256 : Int) ^ n = p at hp ⊢
    have e1 := Int.emod_add_mul_ediv V p
    have e2 := Int.emod_add_mul_ediv (V / p) 256
    have e4 : V / (p * 256) = V / p / 256 := (Int.ediv_ediv_of_nonneg (by omega)).symm
    have e3 := Int.emod_add_mul_ediv V (p * 256)
    rw [e4] at e3
    have e5 : p * (V / p) = p * (V / p % 256) + p * 256 * (V / p / 256) := by
      rw [Int.mul_assoc, ← Int.mul_add, e2]
    omega
theorem byteAt_next (V : Int) (k : Nat) : byteAt V (k + 1) = byteAt (V / 256) k := by
  unfold byteAt
  rw [Int.pow_succ, Int.mul_comm, Int.ediv_ediv_of_nonneg (by decide)]
theorem bytesOf_cons (V : Int) (n : Nat) : bytesOf V (n + 1) = V % 256 :: bytesOf (V / 256) n := by
  unfold bytesOf
  rw [List.range_succ_eq_map, List.map_cons, List.map_map]
  congr 1
  · simp [byteAt]
  · apply List.map_congr_left
    intro k _
    exact byteAt_next V k
theorem bytes_val (l : List Int) (h : ∀ b ∈ l, 0 ≤ b ∧ b < 256) : bytesOf (Pk.valOf l) l.length = l := by
  induction l with
  | nil => rfl
  | cons a r ih =>
    have h1 := h a (by simp)
    have h2 := ih fun b hb => h b (by simp [hb])
    rw [List.length_cons, bytesOf_cons]
    simp only [Pk.valOf]
    have e1 : (a + 256 * Pk.valOf r) % 256 = a := by omega
    have e2 : (a + 256 * Pk.valOf r) / 256 = Pk.valOf r := by omega
    rw [e1, e2, h2]
/-- A number's bytes are taken as the number. -/
theorem num_front (V : Int) (n : Nat) (hn : szB (n : Int) = true) (hV : 0 ≤ V ∧ V < 256 ^ n) (r : List Int) : numR (some (strOfNums (bytesOf V n ++ r))) (n : Int) = (V, some (strOfNums r)) := by
  have hl := bytesOf_length V n
  have e1 := extract_pre (bytesOf V n) r
  have e2 := extract_suf (bytesOf V n) r
  rw [hl] at e1 e2
  simp only [numR]
  rw [if_pos ⟨hn, by rw [strOfNums_size, List.length_append, hl]; omega⟩, Int.toNat_natCast, e1, e2, ints_str _ (bytesOf_range _ _), valOf_bytes _ _ hV.1, Int.emod_eq_of_lt hV.1 hV.2]
theorem ints_split (s : ByteArray) (n : Nat) (h : n ≤ s.size) : ints s = ints (s.extract 0 n) ++ ints (s.extract n s.size) ∧ (ints (s.extract 0 n)).length = n := by
  constructor
  · unfold ints
    rw [Lib.extract_data, Lib.extract_data, ← List.map_append]
    congr 1
    have hs : s.size = s.data.toList.length := rfl
    rw [List.drop_zero, Nat.sub_zero, List.take_of_length_le (l := s.data.toList.drop n) (by rw [List.length_drop]; omega), List.take_append_drop]
  · rw [ints_length, ByteArray.size_extract]
    omega
/-- What was taken was there. -/
theorem num_took (st : Option ByteArray) (n : Nat) (s' : ByteArray) (h : (numR st (n : Int)).2 = some s') :
    ∃ s, st = some s ∧ ints s = bytesOf (numR st (n : Int)).1 n ++ ints s' := by
  cases st with
  | none => simp [numR] at h
  | some s =>
    refine ⟨s, rfl, ?_⟩
    simp only [numR] at h ⊢
    split at h
    · rename_i hc
      rw [if_pos hc]
      simp only [Option.some.injEq] at h
      simp only [Int.toNat_natCast] at h ⊢
      obtain ⟨h1, h2⟩ := ints_split s n (by omega)
      have h3 := bytes_val _ (ints_range (s.extract 0 n))
      rw [h2] at h3
      rw [h3, ← h, h1]
    · simp at h
theorem num_none (n : Int) : numR none n = (0, none) := rfl
theorem wrap64_big {n : Int} (h : 0 ≤ wrap64 n) (h0 : 0 ≤ n) (h1 : n < 18446744073709551616) : wrap64 n = n := by
  unfold wrap64 at h ⊢
  omega
theorem wrap64_small {n : Int} (h0 : 0 ≤ n) (h1 : n < 9223372036854775808) : wrap64 n = n := by
  unfold wrap64
  omega
theorem bits_word {x : Nat} (h : goodR x = true) (hz : isZ x = false ∨ x = 0) : bitsN x = (x : Int) := by
  unfold bitsN
  rw [if_pos h]
  rcases hz with hz | rfl
  · rw [if_neg (by simp [hz])]
  · split <;> rfl
theorem take_word {q : Int} {x : Nat} (h : takeB q x = true) : isZ x = false ∨ x = 0 := by
  unfold takeB at h
  simp only [Bool.and_eq_true, Bool.or_eq_true, Bool.not_eq_true', beq_iff_eq] at h
  rcases h.2 with h | h
  · exact .inl h
  · exact .inr (by omega)
theorem zero_word {x : Nat} (h : ((x : Int) == 0) = true) : isZ x = false ∨ x = 0 := by
  simp only [beq_iff_eq] at h
  exact .inr (by omega)
/-- The numbers of an event that has a form. -/
theorem rate_word {e : E} (hg : goodE e = true) : bitsN e.rate = (e.rate : Int) := by
  refine bits_word (rate_good hg) ?_
  unfold goodE at hg
  simp only [Bool.and_eq_true] at hg
  obtain ⟨_, _, _, _, _, h, _, _⟩ := hg
  rw [(tests_at e _ rfl).2.2.2.1] at h
  unfold rateB at h
  split at h
  · simp only [Bool.and_eq_true] at h
    exact take_word h.1
  · exact zero_word h
theorem income_word {e : E} (hg : goodE e = true) : bitsN e.income = (e.income : Int) := by
  refine bits_word (income_good hg) ?_
  unfold goodE at hg
  simp only [Bool.and_eq_true] at hg
  obtain ⟨_, _, _, _, h, _, _, _⟩ := hg
  rw [(tests_at e _ rfl).2.2.1] at h
  unfold planB at h
  split at h
  · split at h
    · simp only [Bool.and_eq_true] at h
      exact take_word h.1
    · simp only [Bool.and_eq_true] at h
      exact zero_word h.2.1
  · simp only [Bool.and_eq_true] at h
    exact zero_word h.2.1
theorem amount_fit {e : E} (hg : goodE e = true) : 0 ≤ e.amount ∧ e.amount ≤ 1000000000 := by
  unfold goodE at hg
  simp only [Bool.and_eq_true] at hg
  obtain ⟨_, _, h, _⟩ := hg
  rw [(tests_at e _ rfl).1] at h
  exact field_range h (by decide)
theorem kind_fit {e : E} (hg : goodE e = true) : 1 ≤ e.kind ∧ e.kind ≤ 8 := by
  unfold goodE at hg
  simp only [Bool.and_eq_true] at hg
  have h := hg.1
  unfold kindB at h
  simpa using h
theorem flag_of (b : Bool) : (flagI b == 1) = b := by cases b <;> rfl
theorem flag_le (b : Bool) : ¬ 1 < flagI b := by cases b <;> decide

theorem bytesE_app (e : E) (r : List Int) : bytesE e ++ r = (bytesOf e.kind 1 ++ (bytesOf e.day 4 ++ (bytesOf e.key 4 ++ (bytesOf e.loan 2 ++ (bytesOf e.amount 8 ++ (bytesOf (bitsN e.rate) 8 ++ (bytesOf (bitsN e.income) 8 ++ (bytesOf (flagI e.sub) 1 ++ (bytesOf e.status 1 ++ (bytesOf e.plan 1 ++ (bytesOf e.family 1 ++ r))))))))))) := by
  unfold bytesE
  simp only [List.append_assoc]
theorem bytesE_len (e : E) : (bytesE e).length = 39 := by
  unfold bytesE
  simp only [List.length_append, bytesOf_length]
theorem bytesE_range (e : E) : ∀ b ∈ bytesE e, 0 ≤ b ∧ b < 256 := by
  intro b hb
  unfold bytesE at hb
  simp only [List.mem_append, or_assoc] at hb
  rcases hb with h | h | h | h | h | h | h | h | h | h | h <;> exact bytesOf_range _ _ b h
theorem chain_front (e : E) (hf : Fits e) (r : List Int) : gs (some (strOfNums (bytesE e ++ r))) 11 = some (strOfNums r) ∧ gv (some (strOfNums (bytesE e ++ r))) 0 = e.kind ∧ gv (some (strOfNums (bytesE e ++ r))) 1 = e.day ∧ gv (some (strOfNums (bytesE e ++ r))) 2 = e.key ∧ gv (some (strOfNums (bytesE e ++ r))) 3 = e.loan ∧ gv (some (strOfNums (bytesE e ++ r))) 4 = e.amount ∧ gv (some (strOfNums (bytesE e ++ r))) 5 = (bitsN e.rate) ∧ gv (some (strOfNums (bytesE e ++ r))) 6 = (bitsN e.income) ∧ gv (some (strOfNums (bytesE e ++ r))) 7 = (flagI e.sub) ∧ gv (some (strOfNums (bytesE e ++ r))) 8 = e.status ∧ gv (some (strOfNums (bytesE e ++ r))) 9 = e.plan ∧ gv (some (strOfNums (bytesE e ++ r))) 10 = e.family := by
  rw [bytesE_app]
  generalize hst : some (strOfNums (bytesOf e.kind 1 ++ (bytesOf e.day 4 ++ (bytesOf e.key 4 ++ (bytesOf e.loan 2 ++ (bytesOf e.amount 8 ++ (bytesOf (bitsN e.rate) 8 ++ (bytesOf (bitsN e.income) 8 ++ (bytesOf (flagI e.sub) 1 ++ (bytesOf e.status 1 ++ (bytesOf e.plan 1 ++ (bytesOf e.family 1 ++ r)))))))))))) = st
  have g0 : gs st 0 = some (strOfNums (bytesOf e.kind 1 ++ (bytesOf e.day 4 ++ (bytesOf e.key 4 ++ (bytesOf e.loan 2 ++ (bytesOf e.amount 8 ++ (bytesOf (bitsN e.rate) 8 ++ (bytesOf (bitsN e.income) 8 ++ (bytesOf (flagI e.sub) 1 ++ (bytesOf e.status 1 ++ (bytesOf e.plan 1 ++ (bytesOf e.family 1 ++ r)))))))))))) := hst.symm
  have n0 := num_front e.kind 1 rfl hf.kind (bytesOf e.day 4 ++ (bytesOf e.key 4 ++ (bytesOf e.loan 2 ++ (bytesOf e.amount 8 ++ (bytesOf (bitsN e.rate) 8 ++ (bytesOf (bitsN e.income) 8 ++ (bytesOf (flagI e.sub) 1 ++ (bytesOf e.status 1 ++ (bytesOf e.plan 1 ++ (bytesOf e.family 1 ++ r))))))))))
  have g1 : gs st 1 = some (strOfNums (bytesOf e.day 4 ++ (bytesOf e.key 4 ++ (bytesOf e.loan 2 ++ (bytesOf e.amount 8 ++ (bytesOf (bitsN e.rate) 8 ++ (bytesOf (bitsN e.income) 8 ++ (bytesOf (flagI e.sub) 1 ++ (bytesOf e.status 1 ++ (bytesOf e.plan 1 ++ (bytesOf e.family 1 ++ r))))))))))) := by show (numR (gs st 0) ((1 : Nat) : Int)).2 = _; rw [g0, n0]
  have v0 : gv st 0 = e.kind := by show (numR (gs st 0) ((1 : Nat) : Int)).1 = _; rw [g0, n0]
  have n1 := num_front e.day 4 rfl hf.day (bytesOf e.key 4 ++ (bytesOf e.loan 2 ++ (bytesOf e.amount 8 ++ (bytesOf (bitsN e.rate) 8 ++ (bytesOf (bitsN e.income) 8 ++ (bytesOf (flagI e.sub) 1 ++ (bytesOf e.status 1 ++ (bytesOf e.plan 1 ++ (bytesOf e.family 1 ++ r)))))))))
  have g2 : gs st 2 = some (strOfNums (bytesOf e.key 4 ++ (bytesOf e.loan 2 ++ (bytesOf e.amount 8 ++ (bytesOf (bitsN e.rate) 8 ++ (bytesOf (bitsN e.income) 8 ++ (bytesOf (flagI e.sub) 1 ++ (bytesOf e.status 1 ++ (bytesOf e.plan 1 ++ (bytesOf e.family 1 ++ r)))))))))) := by show (numR (gs st 1) ((4 : Nat) : Int)).2 = _; rw [g1, n1]
  have v1 : gv st 1 = e.day := by show (numR (gs st 1) ((4 : Nat) : Int)).1 = _; rw [g1, n1]
  have n2 := num_front e.key 4 rfl hf.key (bytesOf e.loan 2 ++ (bytesOf e.amount 8 ++ (bytesOf (bitsN e.rate) 8 ++ (bytesOf (bitsN e.income) 8 ++ (bytesOf (flagI e.sub) 1 ++ (bytesOf e.status 1 ++ (bytesOf e.plan 1 ++ (bytesOf e.family 1 ++ r))))))))
  have g3 : gs st 3 = some (strOfNums (bytesOf e.loan 2 ++ (bytesOf e.amount 8 ++ (bytesOf (bitsN e.rate) 8 ++ (bytesOf (bitsN e.income) 8 ++ (bytesOf (flagI e.sub) 1 ++ (bytesOf e.status 1 ++ (bytesOf e.plan 1 ++ (bytesOf e.family 1 ++ r))))))))) := by show (numR (gs st 2) ((4 : Nat) : Int)).2 = _; rw [g2, n2]
  have v2 : gv st 2 = e.key := by show (numR (gs st 2) ((4 : Nat) : Int)).1 = _; rw [g2, n2]
  have n3 := num_front e.loan 2 rfl hf.loan (bytesOf e.amount 8 ++ (bytesOf (bitsN e.rate) 8 ++ (bytesOf (bitsN e.income) 8 ++ (bytesOf (flagI e.sub) 1 ++ (bytesOf e.status 1 ++ (bytesOf e.plan 1 ++ (bytesOf e.family 1 ++ r)))))))
  have g4 : gs st 4 = some (strOfNums (bytesOf e.amount 8 ++ (bytesOf (bitsN e.rate) 8 ++ (bytesOf (bitsN e.income) 8 ++ (bytesOf (flagI e.sub) 1 ++ (bytesOf e.status 1 ++ (bytesOf e.plan 1 ++ (bytesOf e.family 1 ++ r)))))))) := by show (numR (gs st 3) ((2 : Nat) : Int)).2 = _; rw [g3, n3]
  have v3 : gv st 3 = e.loan := by show (numR (gs st 3) ((2 : Nat) : Int)).1 = _; rw [g3, n3]
  have n4 := num_front e.amount 8 rfl hf.amount (bytesOf (bitsN e.rate) 8 ++ (bytesOf (bitsN e.income) 8 ++ (bytesOf (flagI e.sub) 1 ++ (bytesOf e.status 1 ++ (bytesOf e.plan 1 ++ (bytesOf e.family 1 ++ r))))))
  have g5 : gs st 5 = some (strOfNums (bytesOf (bitsN e.rate) 8 ++ (bytesOf (bitsN e.income) 8 ++ (bytesOf (flagI e.sub) 1 ++ (bytesOf e.status 1 ++ (bytesOf e.plan 1 ++ (bytesOf e.family 1 ++ r))))))) := by show (numR (gs st 4) ((8 : Nat) : Int)).2 = _; rw [g4, n4]
  have v4 : gv st 4 = e.amount := by show (numR (gs st 4) ((8 : Nat) : Int)).1 = _; rw [g4, n4]
  have n5 := num_front (bitsN e.rate) 8 rfl hf.rate (bytesOf (bitsN e.income) 8 ++ (bytesOf (flagI e.sub) 1 ++ (bytesOf e.status 1 ++ (bytesOf e.plan 1 ++ (bytesOf e.family 1 ++ r)))))
  have g6 : gs st 6 = some (strOfNums (bytesOf (bitsN e.income) 8 ++ (bytesOf (flagI e.sub) 1 ++ (bytesOf e.status 1 ++ (bytesOf e.plan 1 ++ (bytesOf e.family 1 ++ r)))))) := by show (numR (gs st 5) ((8 : Nat) : Int)).2 = _; rw [g5, n5]
  have v5 : gv st 5 = (bitsN e.rate) := by show (numR (gs st 5) ((8 : Nat) : Int)).1 = _; rw [g5, n5]
  have n6 := num_front (bitsN e.income) 8 rfl hf.income (bytesOf (flagI e.sub) 1 ++ (bytesOf e.status 1 ++ (bytesOf e.plan 1 ++ (bytesOf e.family 1 ++ r))))
  have g7 : gs st 7 = some (strOfNums (bytesOf (flagI e.sub) 1 ++ (bytesOf e.status 1 ++ (bytesOf e.plan 1 ++ (bytesOf e.family 1 ++ r))))) := by show (numR (gs st 6) ((8 : Nat) : Int)).2 = _; rw [g6, n6]
  have v6 : gv st 6 = (bitsN e.income) := by show (numR (gs st 6) ((8 : Nat) : Int)).1 = _; rw [g6, n6]
  have n7 := num_front (flagI e.sub) 1 rfl hf.sub (bytesOf e.status 1 ++ (bytesOf e.plan 1 ++ (bytesOf e.family 1 ++ r)))
  have g8 : gs st 8 = some (strOfNums (bytesOf e.status 1 ++ (bytesOf e.plan 1 ++ (bytesOf e.family 1 ++ r)))) := by show (numR (gs st 7) ((1 : Nat) : Int)).2 = _; rw [g7, n7]
  have v7 : gv st 7 = (flagI e.sub) := by show (numR (gs st 7) ((1 : Nat) : Int)).1 = _; rw [g7, n7]
  have n8 := num_front e.status 1 rfl hf.status (bytesOf e.plan 1 ++ (bytesOf e.family 1 ++ r))
  have g9 : gs st 9 = some (strOfNums (bytesOf e.plan 1 ++ (bytesOf e.family 1 ++ r))) := by show (numR (gs st 8) ((1 : Nat) : Int)).2 = _; rw [g8, n8]
  have v8 : gv st 8 = e.status := by show (numR (gs st 8) ((1 : Nat) : Int)).1 = _; rw [g8, n8]
  have n9 := num_front e.plan 1 rfl hf.plan (bytesOf e.family 1 ++ r)
  have g10 : gs st 10 = some (strOfNums (bytesOf e.family 1 ++ r)) := by show (numR (gs st 9) ((1 : Nat) : Int)).2 = _; rw [g9, n9]
  have v9 : gv st 9 = e.plan := by show (numR (gs st 9) ((1 : Nat) : Int)).1 = _; rw [g9, n9]
  have n10 := num_front e.family 1 rfl hf.family r
  have g11 : gs st 11 = some (strOfNums r) := by show (numR (gs st 10) ((1 : Nat) : Int)).2 = _; rw [g10, n10]
  have v10 : gv st 10 = e.family := by show (numR (gs st 10) ((1 : Nat) : Int)).1 = _; rw [g10, n10]
  exact ⟨g11, v0, v1, v2, v3, v4, v5, v6, v7, v8, v9, v10⟩
/-- An event's bytes are taken as the event. -/
theorem get_front (e : E) (ho : Ok e) (hg : goodE e = true) (r : List Int) : gs (some (strOfNums (bytesE e ++ r))) 11 = some (strOfNums r) ∧ getE (some (strOfNums (bytesE e ++ r))) = e := by
  obtain ⟨h, v0, v1, v2, v3, v4, v5, v6, v7, v8, v9, v10⟩ := chain_front e (fits_of e hg ho) r
  refine ⟨h, ?_⟩
  unfold getE
  have ha := amount_fit hg
  rw [v0, v1, v2, v3, v4, v5, v6, v7, v8, v9, v10, if_neg (flag_le _), flag_of, rate_word hg, income_word hg, wrap64_small ha.1 (by omega), Int.toNat_natCast, Int.toNat_natCast]
theorem chain_took (st : Option ByteArray) (t : ByteArray) (h : gs st 11 = some t) : ∃ s, st = some s ∧ ints s = (bytesOf (gv st 0) 1 ++ (bytesOf (gv st 1) 4 ++ (bytesOf (gv st 2) 4 ++ (bytesOf (gv st 3) 2 ++ (bytesOf (gv st 4) 8 ++ (bytesOf (gv st 5) 8 ++ (bytesOf (gv st 6) 8 ++ (bytesOf (gv st 7) 1 ++ (bytesOf (gv st 8) 1 ++ (bytesOf (gv st 9) 1 ++ (bytesOf (gv st 10) 1 ++ ints t))))))))))) := by
  have e11 : ints t = ints t := rfl
  obtain ⟨s10, k10, q10⟩ := num_took (gs st 10) 1 t h
  have e10 : ints s10 = (bytesOf (gv st 10) 1 ++ ints t) := q10.trans (by rw [e11]; rfl)
  obtain ⟨s9, k9, q9⟩ := num_took (gs st 9) 1 s10 k10
  have e9 : ints s9 = (bytesOf (gv st 9) 1 ++ (bytesOf (gv st 10) 1 ++ ints t)) := q9.trans (by rw [e10]; rfl)
  obtain ⟨s8, k8, q8⟩ := num_took (gs st 8) 1 s9 k9
  have e8 : ints s8 = (bytesOf (gv st 8) 1 ++ (bytesOf (gv st 9) 1 ++ (bytesOf (gv st 10) 1 ++ ints t))) := q8.trans (by rw [e9]; rfl)
  obtain ⟨s7, k7, q7⟩ := num_took (gs st 7) 1 s8 k8
  have e7 : ints s7 = (bytesOf (gv st 7) 1 ++ (bytesOf (gv st 8) 1 ++ (bytesOf (gv st 9) 1 ++ (bytesOf (gv st 10) 1 ++ ints t)))) := q7.trans (by rw [e8]; rfl)
  obtain ⟨s6, k6, q6⟩ := num_took (gs st 6) 8 s7 k7
  have e6 : ints s6 = (bytesOf (gv st 6) 8 ++ (bytesOf (gv st 7) 1 ++ (bytesOf (gv st 8) 1 ++ (bytesOf (gv st 9) 1 ++ (bytesOf (gv st 10) 1 ++ ints t))))) := q6.trans (by rw [e7]; rfl)
  obtain ⟨s5, k5, q5⟩ := num_took (gs st 5) 8 s6 k6
  have e5 : ints s5 = (bytesOf (gv st 5) 8 ++ (bytesOf (gv st 6) 8 ++ (bytesOf (gv st 7) 1 ++ (bytesOf (gv st 8) 1 ++ (bytesOf (gv st 9) 1 ++ (bytesOf (gv st 10) 1 ++ ints t)))))) := q5.trans (by rw [e6]; rfl)
  obtain ⟨s4, k4, q4⟩ := num_took (gs st 4) 8 s5 k5
  have e4 : ints s4 = (bytesOf (gv st 4) 8 ++ (bytesOf (gv st 5) 8 ++ (bytesOf (gv st 6) 8 ++ (bytesOf (gv st 7) 1 ++ (bytesOf (gv st 8) 1 ++ (bytesOf (gv st 9) 1 ++ (bytesOf (gv st 10) 1 ++ ints t))))))) := q4.trans (by rw [e5]; rfl)
  obtain ⟨s3, k3, q3⟩ := num_took (gs st 3) 2 s4 k4
  have e3 : ints s3 = (bytesOf (gv st 3) 2 ++ (bytesOf (gv st 4) 8 ++ (bytesOf (gv st 5) 8 ++ (bytesOf (gv st 6) 8 ++ (bytesOf (gv st 7) 1 ++ (bytesOf (gv st 8) 1 ++ (bytesOf (gv st 9) 1 ++ (bytesOf (gv st 10) 1 ++ ints t)))))))) := q3.trans (by rw [e4]; rfl)
  obtain ⟨s2, k2, q2⟩ := num_took (gs st 2) 4 s3 k3
  have e2 : ints s2 = (bytesOf (gv st 2) 4 ++ (bytesOf (gv st 3) 2 ++ (bytesOf (gv st 4) 8 ++ (bytesOf (gv st 5) 8 ++ (bytesOf (gv st 6) 8 ++ (bytesOf (gv st 7) 1 ++ (bytesOf (gv st 8) 1 ++ (bytesOf (gv st 9) 1 ++ (bytesOf (gv st 10) 1 ++ ints t))))))))) := q2.trans (by rw [e3]; rfl)
  obtain ⟨s1, k1, q1⟩ := num_took (gs st 1) 4 s2 k2
  have e1 : ints s1 = (bytesOf (gv st 1) 4 ++ (bytesOf (gv st 2) 4 ++ (bytesOf (gv st 3) 2 ++ (bytesOf (gv st 4) 8 ++ (bytesOf (gv st 5) 8 ++ (bytesOf (gv st 6) 8 ++ (bytesOf (gv st 7) 1 ++ (bytesOf (gv st 8) 1 ++ (bytesOf (gv st 9) 1 ++ (bytesOf (gv st 10) 1 ++ ints t)))))))))) := q1.trans (by rw [e2]; rfl)
  obtain ⟨s0, k0, q0⟩ := num_took (gs st 0) 1 s1 k1
  have e0 : ints s0 = (bytesOf (gv st 0) 1 ++ (bytesOf (gv st 1) 4 ++ (bytesOf (gv st 2) 4 ++ (bytesOf (gv st 3) 2 ++ (bytesOf (gv st 4) 8 ++ (bytesOf (gv st 5) 8 ++ (bytesOf (gv st 6) 8 ++ (bytesOf (gv st 7) 1 ++ (bytesOf (gv st 8) 1 ++ (bytesOf (gv st 9) 1 ++ (bytesOf (gv st 10) 1 ++ ints t))))))))))) := q0.trans (by rw [e1]; rfl)
  exact ⟨s0, k0, e0⟩
theorem flag_back {v : Int} (h : 0 ≤ v ∧ ¬ 1 < v) : flagI (v == 1) = v := by
  obtain rfl | rfl : v = 0 ∨ v = 1 := by omega
  · rfl
  · rfl
/-- What is taken as an event that has a form was its bytes. -/
theorem get_took (st : Option ByteArray) (t : ByteArray) (h : gs st 11 = some t) (hg : goodE (getE st) = true) : ∃ s, st = some s ∧ ints s = bytesE (getE st) ++ ints t := by
  obtain ⟨s, hs, hi⟩ := chain_took st t h
  refine ⟨s, hs, ?_⟩
  obtain ⟨r0, r1, r2, r3, r4, r5, r6, r7, r8, r9, r10⟩ := gv_range st
  have hk := kind_fit hg
  have ha := amount_fit hg
  have hr := rate_word hg
  have hn := income_word hg
  have h7 : ¬ 1 < gv st 7 := fun h => by
    have : (getE st).kind = 0 := by show (if 1 < gv st 7 then 0 else gv st 0) = 0; rw [if_pos h]
    omega
  have e0 : (getE st).kind = gv st 0 := by show (if 1 < gv st 7 then 0 else gv st 0) = _; rw [if_neg h7]
  have e4 : (getE st).amount = gv st 4 := wrap64_big ha.1 r4.1 r4.2
  have e5 : bitsN (getE st).rate = gv st 5 := hr.trans (Int.toNat_of_nonneg r5.1)
  have e6 : bitsN (getE st).income = gv st 6 := hn.trans (Int.toNat_of_nonneg r6.1)
  have e7 : flagI (getE st).sub = gv st 7 := flag_back ⟨r7.1, h7⟩
  rw [bytesE_app, e0, e4, e5, e6, e7, hi]
  rfl
end Go.Proofs.Ytadcpdpcpecooaa.Ev
