/- What the functions on numbers, names and entries answer, in lists of bytes. -/
import Derived.Test.YtajbomiaoncgiaaDoorZB
import Derived.Test.YtajbomiaoncgiaaDoorQPLx3
import Derived.Test.YtajbomiaoncgiaaDoorQPLx7
import Derived.Test.YtajbomiaoncgiaaDoorQPLx8
import Derived.Test.YtajbomiaoncgiaaDoorQPLx9
import Derived.Test.YtajbomiaoncgiaaDoorQPLx10
import Derived.Lib.ItoaLen
namespace Go.Proofs.YtajbomiaoncgiaaDoor.QPL
open Go.RowKit Go.Proofs.YtajbomiaoncgiaaDoorQ Go.Proofs.YtajbomiaoncgiaaDoorW.PrintWords Go.Proofs.YtajbomiaoncgiaaDoorW.PrintLast Go.Proofs.YtajbomiaoncgiaaDoor.ZA

/-! ### bytes -/
abbrev L (s : ByteArray) : Bs := s.data.toList
def ofL (l : Bs) : ByteArray := ⟨l.toArray⟩
theorem L_of (l : Bs) : L (ofL l) = l := by simp [L, ofL]
theorem of_L (s : ByteArray) : ofL (L s) = s := by
  cases s; simp [L, ofL]
theorem L_inj {a b : ByteArray} (h : L a = L b) : a = b := by rw [← of_L a, h, of_L]
theorem size_L (s : ByteArray) : s.size = (L s).length := (Array.length_toList).symm
theorem size_of (l : Bs) : (ofL l).size = l.length := by rw [size_L, L_of]
theorem toList_L (s : ByteArray) : s.toList = L s := by rw [ByteArray.toList_eq]
theorem L_app (a b : ByteArray) : L (a ++ b) = L a ++ L b := by
  show (a ++ b).data.toList = a.data.toList ++ b.data.toList
  rw [ByteArray.data_append, Array.toList_append]
theorem of_app (a b : Bs) : ofL a ++ ofL b = ofL (a ++ b) := L_inj (by rw [L_app, L_of, L_of, L_of])
theorem L_ext (s : ByteArray) (a b : Nat) : L (s.extract a b) = ((L s).take b).drop a := by
  show (s.extract a b).data.toList = (s.data.toList.take b).drop a
  rw [ByteArray.data_extract, Array.toList_extract, List.extract_eq_take_drop, List.drop_take]
theorem bt_L {s : ByteArray} {pre ys : Bs} {c : UInt8} (h : L s = pre ++ c :: ys) : bt s (pre.length : Int) = (c.toNat : Int) := by
  have hl : pre.length < s.size := by rw [size_L, h]; simp
  unfold bt
  rw [Int.toNat_natCast, dif_pos hl]
  have : s[pre.length]'hl = c := by
    have h1 : s[pre.length]'hl = (L s)[pre.length]'(by rw [← size_L]; exact hl) := by simp [L]; rfl
    rw [h1]
    simp [h]
  rw [this]
theorem w64 {n : Int} (h0 : -9223372036854775808 ≤ n) (h1 : n ≤ 9223372036854775807) : wrap64 n = n := by unfold wrap64; omega
theorem u8lt (c : UInt8) : (c.toNat : Int) < 256 ∧ 0 ≤ (c.toNat : Int) := ⟨by have := c.toNat_lt; omega, by omega⟩
theorem in_lt {s : ByteArray} {pre ys : Bs} {c : UInt8} (h : L s = pre ++ c :: ys) : ((pre.length : Nat) : Int) < (s.size : Int) := by
  rw [size_L, h]; simp; omega
theorem in_end {s : ByteArray} {pre : Bs} (h : L s = pre ++ []) : ¬ ((pre.length : Nat) : Int) < (s.size : Int) := by
  rw [size_L, h]; simp
theorem in_next {s : ByteArray} {pre ys : Bs} {c : UInt8} (h : L s = pre ++ c :: ys) (hs : s.size < 9223372036854775807) : wrap64 ((pre.length : Int) + 1) = (((pre ++ [c]).length : Nat) : Int) := by
  have := in_lt h
  rw [w64 (by omega) (by omega)]; simp
theorem in_snoc {s : ByteArray} {pre ys : Bs} {c : UInt8} (h : L s = pre ++ c :: ys) : L s = (pre ++ [c]) ++ ys := by rw [h]; simp
theorem ev_same {α : Type} {g : Nat → Option α} {a b : α} (h : Ev g a) (e : a = b) : Ev g b := e ▸ h

/-! ### check numbers -/
theorem sum_step (n : Int) (c : UInt8) (h0 : 0 ≤ n) (h1 : n < 9973) : Int.tmod (wrap64 ((wrap64 ((wrap64 (131 * n)) + (wrap64 (c.toNat : Int)))) + 1)) 9973 = (131 * n + (c.toNat : Int) + 1) % 9973 := by
  have hc := u8lt c
  rw [w64 (n := 131 * n) (by omega) (by omega), w64 (n := (c.toNat : Int)) (by omega) (by omega), w64 (n := 131 * n + _) (by omega) (by omega), w64 (by omega) (by omega)]
  exact Int.tmod_eq_emod_of_nonneg (by omega)
theorem impl_sum_loop (s : ByteArray) (hs : s.size < 9223372036854775807) : ∀ (ys pre : Bs) (n : Int), L s = pre ++ ys → 0 ≤ n → n < 9973 → Ev (fun k => impl_SumOf.l0 k s n (pre.length : Int)) (sumL ys n) := by
  intro ys
  induction ys with
  | nil =>
    intro pre n h _ _
    refine Ev.step (f := fun _ => some n) (fun k => ?_) (Ev.now _)
    simp only [impl_SumOf.l0]
    rw [if_neg (in_end h)]
  | cons c ys ih =>
    intro pre n h h0 h1
    have hm : 0 ≤ (131 * n + (c.toNat : Int) + 1) % 9973 ∧ (131 * n + (c.toNat : Int) + 1) % 9973 < 9973 := by omega
    refine Ev.step (fun k => ?_) (ih (pre ++ [c]) _ (in_snoc h) hm.1 hm.2)
    simp only [impl_SumOf.l0]
    rw [if_pos (in_lt h), if_pos (by omega), bt_L h, sum_step n c h0 h1, in_next h hs]
theorem impl_sum (s : ByteArray) (hs : s.size < 9223372036854775807) : Ev (fun k => impl_SumOf.f k s) (sumL (L s) 7) := impl_sum_loop s hs (L s) [] 7 rfl (by omega) (by omega)
theorem spec_sum_loop (s : ByteArray) (hs : s.size < 9223372036854775807) : ∀ (ys pre : Bs) (n : Int), L s = pre ++ ys → 0 ≤ n → n < 9973 → Ev (fun k => spec_SumOf.l0 k s n (pre.length : Int)) (sumL ys n) := by
  intro ys
  induction ys with
  | nil =>
    intro pre n h _ _
    refine Ev.step (f := fun _ => some n) (fun k => ?_) (Ev.now _)
    simp only [spec_SumOf.l0]
    rw [if_neg (in_end h)]
  | cons c ys ih =>
    intro pre n h h0 h1
    have hm : 0 ≤ (131 * n + (c.toNat : Int) + 1) % 9973 ∧ (131 * n + (c.toNat : Int) + 1) % 9973 < 9973 := by omega
    refine Ev.step (fun k => ?_) (ih (pre ++ [c]) _ (in_snoc h) hm.1 hm.2)
    simp only [spec_SumOf.l0]
    rw [if_pos (in_lt h), if_pos (by omega), bt_L h, Int.mul_comm n 131, sum_step n c h0 h1, in_next h hs]
theorem spec_sum (s : ByteArray) (hs : s.size < 9223372036854775807) : Ev (fun k => spec_SumOf.f k s) (sumL (L s) 7) := spec_sum_loop s hs (L s) [] 7 rfl (by omega) (by omega)

/-! ### decimal numerals -/
theorem impl_dec (n : Int) (h0 : -9223372036854775808 ≤ n) (h1 : n ≤ 9223372036854775807) : impl_Decimal.f n = some (ofL (dec n)) := by
  unfold impl_Decimal.f
  rw [if_pos ⟨h0, h1⟩]
  rfl
def decFin (x0 : Int) (acc : Bs) : Bs := if acc = [] then [48] else if x0 < 0 then 45 :: acc else acc
def decPos (u : Nat) : Bs := if u = 0 then [] else Lib.decDigits u
theorem decPos_step (u : Nat) (h : u ≠ 0) : decPos u = decPos (u / 10) ++ [UInt8.ofNat (48 + u % 10)] := by
  unfold decPos
  rw [if_neg h]
  by_cases c : u < 10
  · rw [if_pos (by omega), Lib.decDigits, dif_pos c, Nat.mod_eq_of_lt c]; rfl
  · rw [if_neg (by omega), Lib.decDigits, dif_neg c]
theorem nums_L (xs : List Int) (l : Bs) (h : xs = l.map fun c => (c.toNat : Int)) : strOfNums xs = ofL l := by
  subst h
  refine L_inj ?_
  rw [L_of]
  show (strOfNums _).data.toList = l
  rw [strOfNums_data, List.map_map]
  conv => rhs; rw [← List.map_id l]
  refine List.map_congr_left fun c _ => ?_
  simp
theorem dec_loop (x0 : Int) : ∀ (u : Nat) (x4 : Int) (acc : Bs), (x4 = u ∨ x4 = -(u : Int)) → u < 10 ^ 18 → u + acc.length < 10 ^ 18 + 100 → acc.length + (decPos u).length ≤ 40 →
    Ev (fun k => spec_l01Dec.l0 k x0 (acc.map fun c => (c.toNat : Int)) x4) (ofL (decFin x0 (decPos u ++ acc))) := by
  intro u
  induction u using Nat.strongRecOn with
  | ind u ih =>
    intro x4 acc hx hu _ hl
    by_cases c : u = 0
    · subst c
      have hx0 : x4 = 0 := by omega
      subst hx0
      refine Ev.step (f := fun _ => some (ofL (decFin x0 (decPos 0 ++ acc)))) (fun k => ?_) (Ev.now _)
      simp only [spec_l01Dec.l0]
      rw [if_pos trivial, nums_L _ acc rfl]
      have hd : decPos 0 ++ acc = acc := rfl
      rw [hd]
      unfold decFin
      by_cases c1 : acc = []
      · rw [if_pos (by rw [c1]; rfl), if_pos c1]; rfl
      · have c1' : ¬ (((acc.map fun c => (c.toNat : Int)).length : Nat) : Int) = 0 := by
          intro h
          rw [List.length_map] at h
          exact c1 (List.eq_nil_of_length_eq_zero (by omega))
        rw [if_neg c1', if_neg c1]
        by_cases c2 : x0 < 0
        · rw [if_pos c2, if_pos c2, if_pos (by rw [size_of]; omega)]
          exact congrArg some (of_app [45] acc)
        · rw [if_neg c2, if_neg c2]
    · have hs := decPos_step u c
      have hb : (UInt8.ofNat (48 + u % 10)).toNat = 48 + u % 10 := u8 _ (by omega)
      have hacc : ((([(48 + (u % 10 : Nat) : Int)] : List Int) ++ acc.map fun c => (c.toNat : Int))) = (UInt8.ofNat (48 + u % 10) :: acc).map fun c => (c.toNat : Int) := by
        simp only [List.map_cons, hb, List.singleton_append]; congr 1
      rw [hs, List.length_append, List.length_singleton] at hl
      rcases hx with hx | hx
      · have ih' := ih (u / 10) (by omega) ((u / 10 : Nat) : Int) (UInt8.ofNat (48 + u % 10) :: acc) (.inl rfl) (by omega) (by simp; omega) (by simp; omega)
        rw [hs, List.append_assoc]
        refine Ev.step (fun k => ?_) ih'
        simp only [spec_l01Dec.l0]
        have hm : Int.tmod x4 10 = ((u % 10 : Nat) : Int) := by rw [hx, Int.tmod_eq_emod_of_nonneg (by omega)]; omega
        have hd : Int.tdiv x4 10 = ((u / 10 : Nat) : Int) := by rw [hx, Int.tdiv_eq_ediv_of_nonneg (by omega)]; omega
        rw [if_neg (by omega), hm, hd, if_neg (by omega), w64 (n := 48 + _) (by omega) (by omega), w64 (by omega) (by omega), show (48 + ((u % 10 : Nat) : Int)) % 256 = 48 + ((u % 10 : Nat) : Int) by omega]
        simp only [Option.bind_some]
        rw [if_pos (by simp; omega), hacc]
      · have ih' := ih (u / 10) (by omega) (-((u / 10 : Nat) : Int)) (UInt8.ofNat (48 + u % 10) :: acc) (.inr rfl) (by omega) (by simp; omega) (by simp; omega)
        rw [hs, List.append_assoc]
        refine Ev.step (fun k => ?_) ih'
        simp only [spec_l01Dec.l0]
        have hm : Int.tmod x4 10 = -((u % 10 : Nat) : Int) := by rw [hx, Int.neg_tmod, Int.tmod_eq_emod_of_nonneg (by omega)]; omega
        have hd : Int.tdiv x4 10 = -((u / 10 : Nat) : Int) := by rw [hx, Int.neg_tdiv, Int.tdiv_eq_ediv_of_nonneg (by omega)]; omega
        rw [if_neg (by omega), hm, hd, w64 (n := -((u / 10 : Nat) : Int)) (by omega) (by omega)]
        by_cases c3 : -((u % 10 : Nat) : Int) < 0
        · rw [if_pos c3, Int.neg_neg, w64 (n := ((u % 10 : Nat) : Int)) (by omega) (by omega), w64 (n := 48 + _) (by omega) (by omega), show (48 + ((u % 10 : Nat) : Int)) % 256 = 48 + ((u % 10 : Nat) : Int) by omega]
          simp only [Option.bind_some]
          rw [if_pos (by simp; omega), hacc]
        · have h0 : u % 10 = 0 := by omega
          rw [if_neg c3, w64 (n := 48 + _) (by omega) (by omega), show (48 + -((u % 10 : Nat) : Int)) % 256 = 48 + ((u % 10 : Nat) : Int) by omega]
          simp only [Option.bind_some]
          rw [if_pos (by simp; omega), hacc]
theorem dec_abs (n : Int) (h : n.natAbs < 10 ^ 18) : decFin n (decPos n.natAbs ++ []) = dec n := by
  rw [List.append_nil]
  unfold decFin decPos dec Lib.itoa
  by_cases c : n.natAbs = 0
  · have : n = 0 := by omega
    subst this
    rw [if_pos c, if_pos rfl, if_neg (by omega), Int.toNat_zero, Lib.decDigits, dif_pos (by omega)]
    rfl
  · have h1 : Lib.decDigits n.natAbs ≠ [] := fun e => by
      have := (dec_digs n.natAbs).2.2
      rw [e] at this
      simp at this
    rw [if_neg c, if_neg h1]
    by_cases d : n < 0
    · rw [if_pos d, if_pos d]
    · rw [if_neg d, if_neg d]
      congr 1
      omega
theorem spec_dec (n : Int) (h : n.natAbs < 10 ^ 18) : Ev (fun k => spec_l01Dec.f k n) (ofL (dec n)) := by
  have hl : (decPos n.natAbs).length ≤ 18 := by
    unfold decPos
    split
    · simp
    · exact dec_len 17 _ h
  have := dec_loop n n.natAbs n [] (by omega) h (by simp; omega) (by simp; omega)
  rw [dec_abs n h] at this
  exact this
end Go.Proofs.YtajbomiaoncgiaaDoor.QPL
