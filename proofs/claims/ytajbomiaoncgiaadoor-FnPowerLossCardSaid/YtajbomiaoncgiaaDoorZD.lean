/- What the functions that read numbers and names, and those that make frames, answer. -/
import Derived.Test.YtajbomiaoncgiaaDoorZC
namespace Go.Proofs.YtajbomiaoncgiaaDoor.QPL
open Go.RowKit Go.Proofs.YtajbomiaoncgiaaDoorQ Go.Proofs.YtajbomiaoncgiaaDoorW.PrintWords Go.Proofs.YtajbomiaoncgiaaDoorW.PrintLast Go.Proofs.YtajbomiaoncgiaaDoor.ZA

/-! ### numbers that are read -/
def outN (o : Option Int) : Int × Bool := (o.getD 0, o.isSome)
def finN (s t : Bs) (o : Option Int) : Option Int :=
  match o with
  | none => none
  | some n => if dec (if t.length < s.length then -n else n) = s then some (if t.length < s.length then -n else n) else none
theorem digs_bound : ∀ (l : Bs) (n m : Int) (p : Nat), 0 ≤ n → n < 10 ^ p → digs l n = some m → 0 ≤ m ∧ m < 10 ^ (p + l.length)
  | [], n, m, p, h0, h1, h => by
    have := Option.some.inj h
    subst this
    exact ⟨h0, by simpa using h1⟩
  | c :: cs, n, m, p, h0, h1, h => by
    rw [digs] at h
    by_cases d : dig c = true
    · rw [if_pos d] at h
      simp only [dig, Bool.and_eq_true, decide_eq_true_eq] at d
      have hp : (10 : Int) ^ (p + 1) = 10 ^ p * 10 := Int.pow_succ ..
      have := digs_bound cs _ m (p + 1) (by omega) (by omega) h
      rw [List.length_cons]
      rw [show p + (cs.length + 1) = p + 1 + cs.length by omega]
      exact this
    · rw [if_neg d] at h; cases h
theorem pow_le18 {p : Nat} (h : p ≤ 18) : (10 : Int) ^ p ≤ 1000000000000000000 := by
  have h1 : (10 : Int) ^ p ≤ 10 ^ 18 := by
    have := Nat.pow_le_pow_right (n := 10) (by omega) h
    exact_mod_cast this
  have h2 : (10 : Int) ^ 18 = 1000000000000000000 := by decide
  omega
theorem list_eq_iff (a b : ByteArray) : a.toList = b.toList ↔ L a = L b := by rw [toList_L, toList_L]
theorem neg_end (s t : ByteArray) (n : Int) (h0 : 0 ≤ n) (h1 : n < 1000000000000000000) :
    (if (t.size : Int) < (s.size : Int) then ((impl_Decimal.f (wrap64 (-n))).bind fun t223 => (if t223.toList = s.toList then (some (wrap64 (-n), true)) else (some (0, false)))) else ((impl_Decimal.f n).bind fun t224 => (if t224.toList = s.toList then (some (n, true)) else (some ((0 : Int), false))))) = some (outN (finN (L s) (L t) (some n))) := by
  unfold finN
  have hw : wrap64 (-n) = -n := w64 (by omega) (by omega)
  rw [hw]
  by_cases c : (L t).length < (L s).length
  · have c' : (t.size : Int) < (s.size : Int) := by rw [size_L, size_L]; omega
    rw [if_pos c', impl_dec _ (by omega) (by omega)]
    simp only [Option.bind_some, list_eq_iff, L_of, if_pos c]
    by_cases d : dec (-n) = L s
    · rw [if_pos d, if_pos d]; rfl
    · rw [if_neg d, if_neg d]; rfl
  · have c' : ¬ (t.size : Int) < (s.size : Int) := by rw [size_L, size_L]; omega
    rw [if_neg c', impl_dec _ (by omega) (by omega)]
    simp only [Option.bind_some, list_eq_iff, L_of, if_neg c]
    by_cases d : dec n = L s
    · rw [if_pos d, if_pos d]; rfl
    · rw [if_neg d, if_neg d]; rfl
theorem dig_step {n : Int} {c : UInt8} (d : dig c = true) (h0 : 0 ≤ n) (h1 : n < 100000000000000000) : wrap64 ((wrap64 (10 * n)) + (((c.toNat : Int) - 48) % 256)) = 10 * n + ((c.toNat : Int) - 48) := by
  simp only [dig, Bool.and_eq_true, decide_eq_true_eq] at d
  rw [w64 (n := 10 * n) (by omega) (by omega), show ((c.toNat : Int) - 48) % 256 = (c.toNat : Int) - 48 by omega, w64 (by omega) (by omega)]
theorem impl_num_loop (s t : ByteArray) (ht : (L t).length ≤ 18) : ∀ (ys pre : Bs) (n : Int), L t = pre ++ ys → 0 ≤ n → n < 10 ^ pre.length →
    Ev (fun k => impl_ReadDecimal.l0 k s t n (pre.length : Int)) (outN (finN (L s) (L t) (digs ys n))) := by
  intro ys
  induction ys with
  | nil =>
    intro pre n h h0 h1
    have := pow_le18 (p := pre.length) (by rw [h] at ht; simp at ht; omega)
    refine Ev.step (f := fun _ => some (outN (finN (L s) (L t) (some n)))) (fun k => ?_) (Ev.now _)
    simp only [impl_ReadDecimal.l0]
    rw [if_neg (in_end h)]
    exact neg_end s t n h0 (by omega)
  | cons c ys ih =>
    intro pre n h h0 h1
    have hp : pre.length ≤ 17 := by rw [h] at ht; simp at ht; omega
    have hq : (10 : Int) ^ pre.length ≤ 100000000000000000 := by
      have := Nat.pow_le_pow_right (n := 10) (by omega) hp
      have h2 : ((10 ^ 17 : Nat) : Int) = 100000000000000000 := by decide
      have h3 : ((10 ^ pre.length : Nat) : Int) = (10 : Int) ^ pre.length := by push_cast; rfl
      omega
    have hs : t.size < 9223372036854775807 := by rw [size_L]; omega
    by_cases d : dig c = true
    · have d' := d
      simp only [dig, Bool.and_eq_true, decide_eq_true_eq] at d'
      have hp1 : (10 : Int) ^ (pre ++ [c]).length = 10 ^ pre.length * 10 := by rw [List.length_append]; exact Int.pow_succ ..
      refine Ev.step (fun k => ?_) (ev_same (ih (pre ++ [c]) (10 * n + ((c.toNat : Int) - 48)) (in_snoc h) (by omega) (by omega)) (by rw [digs, if_pos d]))
      simp only [impl_ReadDecimal.l0]
      rw [if_pos (in_lt h), if_pos (by omega), bt_L h, if_neg (by omega), if_neg (by omega), dig_step d h0 (by omega), in_next h hs]
    · refine Ev.step (f := fun _ => some (0, false)) (fun k => ?_) (ev_same (Ev.now _) (by rw [digs, if_neg d]; rfl))
      simp only [dig, Bool.and_eq_true, decide_eq_true_eq] at d
      simp only [impl_ReadDecimal.l0]
      rw [if_pos (in_lt h), if_pos (by omega), bt_L h]
      by_cases d1 : (c.toNat : Int) < 48
      · rw [if_pos d1]
      · rw [if_neg d1, if_pos (by omega)]
theorem L_lit (l : Bs) : L (⟨l.toArray⟩ : ByteArray) = l := L_of l
theorem has_prefix (s p : ByteArray) : strings_HasPrefix.f s p = some ((L p).isPrefixOf (L s)) := by
  unfold strings_HasPrefix.f stringslite_HasPrefix.f
  by_cases c : (s.size : Int) ≥ (p.size : Int)
  · rw [if_pos c, if_pos (by omega), if_pos (by omega)]
    simp only [Option.bind_some]
    congr 1
    rw [toList_L, toList_L, L_ext, List.drop_zero, Bool.eq_iff_iff, beq_iff_eq, List.isPrefixOf_iff_prefix, size_L, List.prefix_iff_eq_take]
    exact eq_comm
  · rw [if_neg c]
    simp only [Option.bind_some]
    congr 1
    symm
    rw [← Bool.not_eq_true, List.isPrefixOf_iff_prefix]
    intro h
    have := h.length_le
    rw [size_L, size_L] at c
    omega
theorem trim_prefix (s : ByteArray) : strings_TrimPrefix.f s (⟨#[45]⟩ : ByteArray) = some (ofL (trim (L s))) := by
  have hp := has_prefix s (⟨#[45]⟩ : ByteArray)
  have hL : L (⟨#[45]⟩ : ByteArray) = [45] := rfl
  have hz : (⟨#[45]⟩ : ByteArray).size = 1 := rfl
  unfold strings_HasPrefix.f at hp
  unfold strings_TrimPrefix.f stringslite_TrimPrefix.f
  cases hh : stringslite_HasPrefix.f s (⟨#[45]⟩ : ByteArray) with
  | none => rw [hh] at hp; cases hp
  | some b =>
    rw [hh] at hp
    simp only [Option.bind_some, Option.some.injEq] at hp ⊢
    rw [hp, hL]
    cases hc : L s with
    | nil =>
      rw [if_neg (show ¬ ([45] : Bs).isPrefixOf [] = true by decide)]
      simp only [Option.bind_some, Option.some.injEq]
      exact L_inj (by rw [hc, L_of]; rfl)
    | cons x xs =>
      by_cases e : x = 45
      · have h1 : ([45] : Bs).isPrefixOf (x :: xs) = true := by simp [List.isPrefixOf, e]
        rw [if_pos h1, hz, if_pos (by decide), if_pos (by rw [size_L, hc]; simp; omega), trim, if_pos e]
        simp only [Option.bind_some, Option.some.injEq]
        refine L_inj ?_
        rw [L_ext, L_of, hc, size_L, hc, List.take_length]
        rfl
      · have h1 : ¬ ([45] : Bs).isPrefixOf (x :: xs) = true := by
          simp only [List.isPrefixOf, Bool.and_true, beq_iff_eq]
          exact fun q => e q.symm
        rw [if_neg h1, trim, if_neg e]
        simp only [Option.bind_some, Option.some.injEq]
        exact L_inj (by rw [hc, L_of])
theorem rdNum_fin (s : Bs) (h : 1 ≤ (trim s).length) (h1 : (trim s).length ≤ 18) : rdNum s = finN s (trim s) (digs (trim s) 0) := by
  unfold rdNum finN
  rw [if_neg (by omega)]
  cases digs (trim s) 0 <;> rfl
theorem impl_num (s : ByteArray) : Ev (fun k => impl_ReadDecimal.f k s) (outN (rdNum (L s))) := by
  by_cases c1 : (trim (L s)).length < 1
  · refine Ev.step (f := fun _ => some (0, false)) (fun k => ?_) (ev_same (Ev.now _) (by unfold rdNum; rw [if_pos (.inl c1)]; rfl))
    unfold impl_ReadDecimal.f
    rw [trim_prefix]
    simp only [Option.bind_some]
    rw [if_pos (by rw [size_of]; omega)]
    simp [impl_ReadDecimal.j0]
  by_cases c2 : 18 < (trim (L s)).length
  · refine Ev.step (f := fun _ => some (0, false)) (fun k => ?_) (ev_same (Ev.now _) (by unfold rdNum; rw [if_pos (.inr c2)]; rfl))
    unfold impl_ReadDecimal.f
    rw [trim_prefix]
    simp only [Option.bind_some]
    rw [if_neg (by rw [size_of]; omega), decide_eq_true (by rw [size_of]; omega)]
    simp [impl_ReadDecimal.j0]
  · have hl := impl_num_loop s (ofL (trim (L s))) (by rw [L_of]; omega) (trim (L s)) [] 0 (by rw [L_of]; rfl) (by omega) (by simp)
    rw [L_of, ← rdNum_fin _ (by omega) (by omega)] at hl
    refine Ev.step (fun k => ?_) hl
    unfold impl_ReadDecimal.f
    rw [trim_prefix]
    simp only [Option.bind_some]
    rw [if_neg (by rw [size_of]; omega), decide_eq_false (by rw [size_of]; omega)]
    simp [impl_ReadDecimal.j0]
theorem spec_neg_end (s t : ByteArray) (n : Int) (h0 : 0 ≤ n) (h1 : n < 1000000000000000000) :
    Ev (fun k => if (t.size : Int) < (s.size : Int) then ((spec_l01Dec.f k (wrap64 (-n))).bind fun t265 => (if t265.toList = s.toList then (some (wrap64 (-n), true)) else (some (0, false)))) else ((spec_l01Dec.f k n).bind fun t266 => (if t266.toList = s.toList then (some (n, true)) else (some ((0 : Int), false))))) (outN (finN (L s) (L t) (some n))) := by
  unfold finN
  have hw : wrap64 (-n) = -n := w64 (by omega) (by omega)
  by_cases c : (L t).length < (L s).length
  · have c' : (t.size : Int) < (s.size : Int) := by rw [size_L, size_L]; omega
    refine Ev.congr (f := fun k => (spec_l01Dec.f k (-n)).bind fun t265 => (if t265.toList = s.toList then (some (-n, true)) else (some (0, false)))) (fun k => by rw [if_pos c', hw]) (Ev.bind (spec_dec (-n) (by omega)) ?_)
    simp only [list_eq_iff, L_of, if_pos c]
    by_cases d : dec (-n) = L s
    · rw [if_pos d, if_pos d]; exact Ev.now _
    · rw [if_neg d, if_neg d]; exact Ev.now _
  · have c' : ¬ (t.size : Int) < (s.size : Int) := by rw [size_L, size_L]; omega
    refine Ev.congr (f := fun k => (spec_l01Dec.f k n).bind fun t265 => (if t265.toList = s.toList then (some (n, true)) else (some (0, false)))) (fun k => by rw [if_neg c']) (Ev.bind (spec_dec n (by omega)) ?_)
    simp only [list_eq_iff, L_of, if_neg c]
    by_cases d : dec n = L s
    · rw [if_pos d, if_pos d]; exact Ev.now _
    · rw [if_neg d, if_neg d]; exact Ev.now _
theorem spec_dig (c : UInt8) : spec_l01Digit.f (c.toNat : Int) = some (dig c) := by
  unfold spec_l01Digit.f dig
  by_cases h : (c.toNat : Int) ≥ 48
  · rw [if_pos h, decide_eq_true h]; simp
  · rw [if_neg h, decide_eq_false (p := 48 ≤ (c.toNat : Int)) (by omega)]; rfl
theorem spec_num_loop (s t : ByteArray) (ht : (L t).length ≤ 18) : ∀ (ys pre : Bs) (n : Int), L t = pre ++ ys → 0 ≤ n → n < 10 ^ pre.length →
    Ev (fun k => spec_l01Number.l0 k s t n (pre.length : Int)) (outN (finN (L s) (L t) (digs ys n))) := by
  intro ys
  induction ys with
  | nil =>
    intro pre n h h0 h1
    have := pow_le18 (p := pre.length) (by rw [h] at ht; simp at ht; omega)
    refine Ev.step (fun k => ?_) (spec_neg_end s t n h0 (by omega))
    simp only [spec_l01Number.l0]
    rw [if_neg (in_end h)]
  | cons c ys ih =>
    intro pre n h h0 h1
    have hp : pre.length ≤ 17 := by rw [h] at ht; simp at ht; omega
    have hq : (10 : Int) ^ pre.length ≤ 100000000000000000 := by
      have := Nat.pow_le_pow_right (n := 10) (by omega) hp
      have h2 : ((10 ^ 17 : Nat) : Int) = 100000000000000000 := by decide
      have h3 : ((10 ^ pre.length : Nat) : Int) = (10 : Int) ^ pre.length := by push_cast; rfl
      omega
    have hs : t.size < 9223372036854775807 := by rw [size_L]; omega
    by_cases d : dig c = true
    · have d' := d
      simp only [dig, Bool.and_eq_true, decide_eq_true_eq] at d'
      have hp1 : (10 : Int) ^ (pre ++ [c]).length = 10 ^ pre.length * 10 := by rw [List.length_append]; exact Int.pow_succ ..
      refine Ev.step (fun k => ?_) (ev_same (ih (pre ++ [c]) (10 * n + ((c.toNat : Int) - 48)) (in_snoc h) (by omega) (by omega)) (by rw [digs, if_pos d]))
      simp only [spec_l01Number.l0]
      rw [if_pos (in_lt h), if_pos (by omega), bt_L h, spec_dig, d]
      simp only [Option.bind_some, if_true]
      rw [dig_step d h0 (by omega), in_next h hs]
    · refine Ev.step (f := fun _ => some (0, false)) (fun k => ?_) (ev_same (Ev.now _) (by rw [digs, if_neg d]; rfl))
      simp only [spec_l01Number.l0]
      rw [if_pos (in_lt h), if_pos (by omega), bt_L h, spec_dig, Bool.eq_false_iff.2 d]
      rfl
theorem spec_num_j1 (s t : ByteArray) (ht : L t = trim (L s)) : Ev (fun k => spec_l01Number.j1 k s t) (outN (rdNum (L s))) := by
  by_cases c1 : (trim (L s)).length < 1
  · refine Ev.step (f := fun k => spec_l01Number.j2 k s t true) (fun k => ?_) (Ev.step (f := fun _ => some (0, false)) (fun k => ?_) (ev_same (Ev.now _) (by unfold rdNum; rw [if_pos (.inl c1)]; rfl)))
    · simp only [spec_l01Number.j1]
      rw [if_pos (by rw [size_L, ht]; omega)]
    · simp [spec_l01Number.j2]
  by_cases c2 : 18 < (trim (L s)).length
  · refine Ev.step (f := fun k => spec_l01Number.j2 k s t true) (fun k => ?_) (Ev.step (f := fun _ => some (0, false)) (fun k => ?_) (ev_same (Ev.now _) (by unfold rdNum; rw [if_pos (.inr c2)]; rfl)))
    · simp only [spec_l01Number.j1]
      rw [if_neg (by rw [size_L, ht]; omega), decide_eq_true (by rw [size_L, ht]; omega)]
    · simp [spec_l01Number.j2]
  · have hl := spec_num_loop s t (by rw [ht]; omega) (trim (L s)) [] 0 (by rw [ht]; rfl) (by omega) (by simp)
    rw [ht, ← rdNum_fin _ (by omega) (by omega)] at hl
    refine Ev.step (f := fun k => spec_l01Number.j2 k s t false) (fun k => ?_) (Ev.step (fun k => ?_) hl)
    · simp only [spec_l01Number.j1]
      rw [if_neg (by rw [size_L, ht]; omega), decide_eq_false (by rw [size_L, ht]; omega)]
    · simp [spec_l01Number.j2]
theorem spec_num (s : ByteArray) : Ev (fun k => spec_l01Number.f k s) (outN (rdNum (L s))) := by
  cases hc : L s with
  | nil =>
    have h1 : s.toList = [] := by rw [toList_L, hc]
    rw [← hc]
    refine Ev.congr (f := fun k => spec_l01Number.j0 k s s false) (fun k => by unfold spec_l01Number.f; rw [if_pos h1]) (Ev.step (f := fun k => spec_l01Number.j1 k s s) (fun k => by simp [spec_l01Number.j0]) (spec_num_j1 s s (by rw [hc]; rfl)))
  | cons x xs =>
    have h1 : ¬ s.toList = [] := by rw [toList_L, hc]; simp
    have h2 : 0 < (s.size : Int) := by rw [size_L, hc]; simp
    have h3 : bt s 0 = (x.toNat : Int) := bt_L (pre := []) hc
    rw [← hc]
    by_cases e : x = 45
    · refine Ev.congr (f := fun k => spec_l01Number.j0 k s s true) (fun k => by
        unfold spec_l01Number.f
        rw [if_neg h1, if_pos h2, h3, e]
        rfl) (Ev.step (f := fun k => spec_l01Number.j1 k s (s.extract 1 s.size)) (fun k => by
        simp only [spec_l01Number.j0]
        rw [if_pos trivial, if_pos (by omega)]) (spec_num_j1 s _ (by
        rw [L_ext, size_L, List.take_length, hc, trim, if_pos e, List.drop_one, List.tail_cons])))
    · have h4 : ((x.toNat : Int) == 45) = false := by
        rw [beq_eq_false_iff_ne]
        intro q
        exact e (UInt8.toNat_inj.1 (by rw [show (45 : UInt8).toNat = 45 from rfl]; omega))
      refine Ev.congr (f := fun k => spec_l01Number.j0 k s s false) (fun k => by
        unfold spec_l01Number.f
        rw [if_neg h1, if_pos h2, h3, h4]) (Ev.step (f := fun k => spec_l01Number.j1 k s s) (fun k => by
        simp [spec_l01Number.j0]) (spec_num_j1 s s (by rw [hc, trim, if_neg e])))
end Go.Proofs.YtajbomiaoncgiaaDoor.QPL
