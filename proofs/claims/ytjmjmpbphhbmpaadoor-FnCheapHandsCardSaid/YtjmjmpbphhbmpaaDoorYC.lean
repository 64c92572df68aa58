/- The plain law of FnCheapHands: numbers and clocks as texts. -/
import Derived.Test.YtjmjmpbphhbmpaaDoorYA
import Derived.Test.YtjmjmpbphhbmpaaDoorYB
import Derived.Lib.ItoaLen
namespace Go.Proofs.YtjmjmpbphhbmpaaDoor.QCB
open Go.RowKit Go.Proofs.YtjmjmpbphhbmpaaDoorQ Go.Proofs.YtjmjmpbphhbmpaaDoorW.PrintWords Go.Proofs.YtjmjmpbphhbmpaaDoorW.PrintLast Go.Proofs.YtjmjmpbphhbmpaaDoorW.PrintMore Go.Proofs.YtjmjmpbphhbmpaaDoor.ZA

abbrev L (s : ByteArray) : Bs := s.data.toList
def ofL (l : Bs) : ByteArray := ⟨l.toArray⟩
theorem L_of (l : Bs) : L (ofL l) = l := by simp [L, ofL]
theorem of_L (s : ByteArray) : ofL (L s) = s := by
  cases s; simp [L, ofL]
theorem L_inj {a b : ByteArray} (h : L a = L b) : a = b := by rw [← of_L a, h, of_L]
theorem size_L (s : ByteArray) : s.size = (L s).length := (Array.length_toList).symm
theorem size_of (l : Bs) : (ofL l).size = l.length := by rw [size_L, L_of]
theorem toList_L (s : ByteArray) : s.toList = L s := by rw [ByteArray.toList_eq]
theorem L_app (a b : ByteArray) : L (a ++ b) = L a ++ L b := by
  show (a ++ b).data.toList = a.data.toList ++ b.data.toList
  rw [ByteArray.data_append, Array.toList_append]
theorem of_app (a b : Bs) : ofL a ++ ofL b = ofL (a ++ b) := L_inj (by rw [L_app, L_of, L_of, L_of])
theorem L_ext (s : ByteArray) (a b : Nat) : L (s.extract a b) = ((L s).take b).drop a := by
  show (s.extract a b).data.toList = (s.data.toList.take b).drop a
  rw [ByteArray.data_extract, Array.toList_extract, List.extract_eq_take_drop, List.drop_take]
theorem bt_L {s : ByteArray} {pre ys : Bs} {c : UInt8} (h : L s = pre ++ c :: ys) : bt s (pre.length : Int) = (c.toNat : Int) := by
  have hl : pre.length < s.size := by rw [size_L, h]; simp
  unfold bt
  rw [Int.toNat_natCast, dif_pos hl]
  have : s[pre.length]'hl = c := by
    have h1 : s[pre.length]'hl = (L s)[pre.length]'(by rw [← size_L]; exact hl) := by simp [L]; rfl
    rw [h1]
    simp [h]
  rw [this]
theorem u8lt (c : UInt8) : (c.toNat : Int) < 256 ∧ 0 ≤ (c.toNat : Int) := ⟨by have := c.toNat_lt; omega, by omega⟩
theorem in_lt {s : ByteArray} {pre ys : Bs} {c : UInt8} (h : L s = pre ++ c :: ys) : ((pre.length : Nat) : Int) < (s.size : Int) := by
  rw [size_L, h]; simp; omega
theorem in_end {s : ByteArray} {pre : Bs} (h : L s = pre ++ []) : ¬ ((pre.length : Nat) : Int) < (s.size : Int) := by
  rw [size_L, h]; simp
theorem in_next {s : ByteArray} {pre ys : Bs} {c : UInt8} (h : L s = pre ++ c :: ys) (hs : s.size < 9223372036854775807) : wrap64 ((pre.length : Int) + 1) = (((pre ++ [c]).length : Nat) : Int) := by
  have := in_lt h
  rw [w64 (by omega) (by omega)]; simp
theorem in_snoc {s : ByteArray} {pre ys : Bs} {c : UInt8} (h : L s = pre ++ c :: ys) : L s = (pre ++ [c]) ++ ys := by rw [h]; simp
theorem ev_same {α : Type} {g : Nat → Option α} {a b : α} (h : Ev g a) (e : a = b) : Ev g b := e ▸ h

theorem impl_dec (n : Int) (h0 : -9223372036854775808 ≤ n) (h1 : n ≤ 9223372036854775807) : impl_Decimal.f n = some (ofL (dec n)) := by
  unfold impl_Decimal.f
  rw [if_pos ⟨h0, h1⟩]
  rfl
def outN (o : Option Int) : Int × Bool := (o.getD 0, o.isSome)
def finN (s t : Bs) (o : Option Int) : Option Int :=
  match o with
  | none => none
  | some n => if dec (if t.length < s.length then -n else n) = s then some (if t.length < s.length then -n else n) else none
theorem digs_bound : ∀ (l : Bs) (n m : Int) (p : Nat), 0 ≤ n → n < 10 ^ p → digs l n = some m → 0 ≤ m ∧ m < 10 ^ (p + l.length)
  | [], n, m, p, h0, h1, h => by
    have := Option.some.inj h
    subst this
    exact ⟨h0, by simpa using h1⟩
  | c :: cs, n, m, p, h0, h1, h => by
    rw [digs] at h
    by_cases d : dig c = true
    · rw [if_pos d] at h
      simp only [dig, Bool.and_eq_true, decide_eq_true_eq] at d
      have hp : (10 : Int) ^ (p + 1) = 10 ^ p * 10 := Int.pow_succ ..
      have := digs_bound cs _ m (p + 1) (by omega) (by omega) h
      rw [List.length_cons]
      rw [show p + (cs.length + 1) = p + 1 + cs.length by omega]
      exact this
    · rw [if_neg d] at h; cases h
theorem pow_le18 {p : Nat} (h : p ≤ 18) : (10 : Int) ^ p ≤ 1000000000000000000 := by
  have h1 : (10 : Int) ^ p ≤ 10 ^ 18 := by
    have := Nat.pow_le_pow_right (n := 10) (by omega) h
    exact_mod_cast this
  have h2 : (10 : Int) ^ 18 = 1000000000000000000 := by decide
  omega
theorem list_eq_iff (a b : ByteArray) : a.toList = b.toList ↔ L a = L b := by rw [toList_L, toList_L]
theorem neg_end (s t : ByteArray) (n : Int) (h0 : 0 ≤ n) (h1 : n < 1000000000000000000) :
    (if (t.size : Int) < (s.size : Int) then ((impl_Decimal.f (wrap64 (-n))).bind fun t223 => (if t223.toList = s.toList then (some (wrap64 (-n), true)) else (some (0, false)))) else ((impl_Decimal.f n).bind fun t224 => (if t224.toList = s.toList then (some (n, true)) else (some ((0 : Int), false))))) = some (outN (finN (L s) (L t) (some n))) := by
  unfold finN
  have hw : wrap64 (-n) = -n := w64 (by omega) (by omega)
  rw [hw]
  by_cases c : (L t).length < (L s).length
  · have c' : (t.size : Int) < (s.size : Int) := by rw [size_L, size_L]; omega
    rw [if_pos c', impl_dec _ (by omega) (by omega)]
    simp only [Option.bind_some, list_eq_iff, L_of, if_pos c]
    by_cases d : dec (-n) = L s
    · rw [if_pos d, if_pos d]; rfl
    · rw [if_neg d, if_neg d]; rfl
  · have c' : ¬ (t.size : Int) < (s.size : Int) := by rw [size_L, size_L]; omega
    rw [if_neg c', impl_dec _ (by omega) (by omega)]
    simp only [Option.bind_some, list_eq_iff, L_of, if_neg c]
    by_cases d : dec n = L s
    · rw [if_pos d, if_pos d]; rfl
    · rw [if_neg d, if_neg d]; rfl
theorem dig_step {n : Int} {c : UInt8} (d : dig c = true) (h0 : 0 ≤ n) (h1 : n < 100000000000000000) : wrap64 ((wrap64 (10 * n)) + (((c.toNat : Int) - 48) % 256)) = 10 * n + ((c.toNat : Int) - 48) := by
  simp only [dig, Bool.and_eq_true, decide_eq_true_eq] at d
  rw [w64 (n := 10 * n) (by omega) (by omega), show ((c.toNat : Int) - 48) % 256 = (c.toNat : Int) - 48 by omega, w64 (by omega) (by omega)]
theorem impl_num_loop (s t : ByteArray) (ht : (L t).length ≤ 18) : ∀ (ys pre : Bs) (n : Int), L t = pre ++ ys → 0 ≤ n → n < 10 ^ pre.length →
    Ev (fun k => impl_ReadDecimal.l0 k s t n (pre.length : Int)) (outN (finN (L s) (L t) (digs ys n))) := by
  intro ys
  induction ys with
  | nil =>
    intro pre n h h0 h1
    have := pow_le18 (p := pre.length) (by rw [h] at ht; simp at ht; omega)
    refine Ev.step (f := fun _ => some (outN (finN (L s) (L t) (some n)))) (fun k => ?_) (Ev.now _)
    simp only [impl_ReadDecimal.l0]
    rw [if_neg (in_end h)]
    exact neg_end s t n h0 (by omega)
  | cons c ys ih =>
    intro pre n h h0 h1
    have hp : pre.length ≤ 17 := by rw [h] at ht; simp at ht; omega
    have hq : (10 : Int) ^ pre.length ≤ 100000000000000000 := by
      have := Nat.pow_le_pow_right (n := 10) (by omega) hp
      have h2 : ((10 ^ 17 : Nat) : Int) = 100000000000000000 := by decide
      have h3 : ((10 ^ pre.length : Nat) : Int) = (10 : Int) ^ pre.length := by push_cast; rfl
      omega
    have hs : t.size < 9223372036854775807 := by rw [size_L]; omega
    by_cases d : dig c = true
    · have d' := d
      simp only [dig, Bool.and_eq_true, decide_eq_true_eq] at d'
      have hp1 : (10 : Int) ^ (pre ++ [c]).length = 10 ^ pre.length * 10 := by rw [List.length_append]; exact Int.pow_succ ..
      refine Ev.step (fun k => ?_) (ev_same (ih (pre ++ [c]) (10 * n + ((c.toNat : Int) - 48)) (in_snoc h) (by omega) (by omega)) (by rw [digs, if_pos d]))
      simp only [impl_ReadDecimal.l0]
      rw [if_pos (in_lt h), if_pos (by omega), bt_L h, if_neg (by omega), if_neg (by omega), dig_step d h0 (by omega), in_next h hs]
    · refine Ev.step (f := fun _ => some (0, false)) (fun k => ?_) (ev_same (Ev.now _) (by rw [digs, if_neg d]; rfl))
      simp only [dig, Bool.and_eq_true, decide_eq_true_eq] at d
      simp only [impl_ReadDecimal.l0]
      rw [if_pos (in_lt h), if_pos (by omega), bt_L h]
      by_cases d1 : (c.toNat : Int) < 48
      · rw [if_pos d1]
      · rw [if_neg d1, if_pos (by omega)]
theorem L_lit (l : Bs) : L (⟨l.toArray⟩ : ByteArray) = l := L_of l
theorem has_prefix (s p : ByteArray) : stringslite_HasPrefix.f s p = some ((L p).isPrefixOf (L s)) := by
  unfold stringslite_HasPrefix.f
  by_cases c : (s.size : Int) ≥ (p.size : Int)
  · rw [if_pos c, if_pos (by omega), if_pos (by omega)]
    congr 1
    rw [toList_L, toList_L, L_ext, List.drop_zero, Bool.eq_iff_iff, beq_iff_eq, List.isPrefixOf_iff_prefix, size_L, List.prefix_iff_eq_take]
    exact eq_comm
  · rw [if_neg c]
    congr 1
    symm
    rw [← Bool.not_eq_true, List.isPrefixOf_iff_prefix]
    intro h
    have := h.length_le
    rw [size_L, size_L] at c
    omega
theorem trim_prefix (s : ByteArray) : strings_TrimPrefix.f s (⟨#[45]⟩ : ByteArray) = some (ofL (trim (L s))) := by
  have hp := has_prefix s (⟨#[45]⟩ : ByteArray)
  have hL : L (⟨#[45]⟩ : ByteArray) = [45] := rfl
  have hz : (⟨#[45]⟩ : ByteArray).size = 1 := rfl
  unfold strings_TrimPrefix.f stringslite_TrimPrefix.f
  cases hh : stringslite_HasPrefix.f s (⟨#[45]⟩ : ByteArray) with
  | none => rw [hh] at hp; cases hp
  | some b =>
    rw [hh] at hp
    simp only [Option.bind_some, Option.some.injEq] at hp ⊢
    rw [hp, hL]
    cases hc : L s with
    | nil =>
      rw [if_neg (show ¬ ([45] : Bs).isPrefixOf [] = true by decide)]
      simp only [Option.bind_some, Option.some.injEq]
      exact L_inj (by rw [hc, L_of]; rfl)
    | cons x xs =>
      by_cases e : x = 45
      · have h1 : ([45] : Bs).isPrefixOf (x :: xs) = true := by simp [List.isPrefixOf, e]
        rw [if_pos h1, hz, if_pos (by decide), if_pos (by rw [size_L, hc]; simp; omega), trim, if_pos e]
        simp only [Option.bind_some, Option.some.injEq]
        refine L_inj ?_
        rw [L_ext, L_of, hc, size_L, hc, List.take_length]
        rfl
      · have h1 : ¬ ([45] : Bs).isPrefixOf (x :: xs) = true := by
          simp only [List.isPrefixOf, Bool.and_true, beq_iff_eq]
          exact fun q => e q.symm
        rw [if_neg h1, trim, if_neg e]
        simp only [Option.bind_some, Option.some.injEq]
        exact L_inj (by rw [hc, L_of])
theorem rdNum_fin (s : Bs) (h : 1 ≤ (trim s).length) (h1 : (trim s).length ≤ 18) : rdNum s = finN s (trim s) (digs (trim s) 0) := by
  unfold rdNum finN
  rw [if_neg (by omega)]
  cases digs (trim s) 0 <;> rfl
theorem impl_num (s : ByteArray) : Ev (fun k => impl_ReadDecimal.f k s) (outN (rdNum (L s))) := by
  by_cases c1 : (trim (L s)).length < 1
  · refine Ev.step (f := fun _ => some (0, false)) (fun k => ?_) (ev_same (Ev.now _) (by unfold rdNum; rw [if_pos (.inl c1)]; rfl))
    unfold impl_ReadDecimal.f
    rw [trim_prefix]
    simp only [Option.bind_some]
    rw [if_pos (by rw [size_of]; omega)]
    simp [impl_ReadDecimal.j0]
  by_cases c2 : 18 < (trim (L s)).length
  · refine Ev.step (f := fun _ => some (0, false)) (fun k => ?_) (ev_same (Ev.now _) (by unfold rdNum; rw [if_pos (.inr c2)]; rfl))
    unfold impl_ReadDecimal.f
    rw [trim_prefix]
    simp only [Option.bind_some]
    rw [if_neg (by rw [size_of]; omega), decide_eq_true (by rw [size_of]; omega)]
    simp [impl_ReadDecimal.j0]
  · have hl := impl_num_loop s (ofL (trim (L s))) (by rw [L_of]; omega) (trim (L s)) [] 0 (by rw [L_of]; rfl) (by omega) (by simp)
    rw [L_of, ← rdNum_fin _ (by omega) (by omega)] at hl
    refine Ev.step (fun k => ?_) hl
    unfold impl_ReadDecimal.f
    rw [trim_prefix]
    simp only [Option.bind_some]
    rw [if_neg (by rw [size_of]; omega), decide_eq_false (by rw [size_of]; omega)]
    simp [impl_ReadDecimal.j0]
theorem index_cut (c : UInt8) : ∀ l : Bs, Lib.indexByte l c = (match cutAt c l with | none => -1 | some p => (p.1.length : Int))
  | [] => rfl
  | x :: xs => by
    rw [Lib.indexByte, cutAt, index_cut c xs]
    by_cases h : x = c
    · rw [if_pos (by simpa using h), if_pos h]; rfl
    · rw [if_neg (by simpa using h), if_neg h]
      cases cutAt c xs with
      | none => rfl
      | some p =>
        simp only [Option.map_some]
        have hne : ¬ ((p.1.length : Int) == -1) = true := by simp
        rw [if_neg hne]
        simp
theorem lib_cut (c : UInt8) (l : Bs) : Lib.cut l [c] = (match cutAt c l with | none => (l, [], false) | some p => (p.1, p.2, true)) := by
  unfold Lib.cut
  rw [Lib.index_one, index_cut]
  rcases cut_cases c l with ⟨_, h⟩ | ⟨a, b, h1, _, h⟩
  · rw [h]; rfl
  · rw [h]
    simp only
    rw [if_pos (by omega), Int.toNat_natCast, h1, List.take_left' rfl]
    simp only [List.length_singleton]
    rw [← List.drop_drop, List.drop_left' rfl, List.drop_one, List.tail_cons]
theorem impl_cut (s : ByteArray) (hs : s.size < 4294967281) : strings_Cut.f s (⟨#[58]⟩ : ByteArray) = some (match cutAt 58 (L s) with | none => (s, ofL [], false) | some p => (ofL p.1, ofL p.2, true)) := by
  unfold strings_Cut.f
  rw [if_pos hs, show (⟨#[58]⟩ : ByteArray).data.toList = [58] from rfl, lib_cut]
  cases h : cutAt 58 (L s) with
  | none => simp only [L] at h ⊢; exact congrArg (fun z => some (z, ofL [], false)) (of_L s)
  | some p => simp only [L] at h ⊢; rfl
end Go.Proofs.YtjmjmpbphhbmpaaDoor.QCB
