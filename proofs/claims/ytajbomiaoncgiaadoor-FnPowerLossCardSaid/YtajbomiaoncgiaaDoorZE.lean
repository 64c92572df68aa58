/- What the functions on names, entries and frames answer. -/
import Derived.Test.YtajbomiaoncgiaaDoorZD
namespace Go.Proofs.YtajbomiaoncgiaaDoor.QPL
open Go.RowKit Go.Proofs.YtajbomiaoncgiaaDoorQ Go.Proofs.YtajbomiaoncgiaaDoorW.PrintWords Go.Proofs.YtajbomiaoncgiaaDoorW.PrintLast Go.Proofs.YtajbomiaoncgiaaDoor.ZA

/-! ### names -/
theorem impl_name_loop (s : ByteArray) (hs : s.size < 9223372036854775807) : ∀ (ys pre : Bs), L s = pre ++ ys → Ev (fun k => impl_IsName.l0 k s (pre.length : Int)) (ys.all okB)
  | [], pre, h => by
    refine Ev.step (f := fun _ => some true) (fun k => ?_) (Ev.now _)
    simp only [impl_IsName.l0]
    rw [if_neg (in_end h)]
  | c :: ys, pre, h => by
    by_cases d : okB c = true
    · refine Ev.step (fun k => ?_) (ev_same (impl_name_loop s hs ys (pre ++ [c]) (in_snoc h)) (by rw [List.all_cons, d, Bool.true_and]))
      simp only [okB, dig, Bool.or_eq_true, Bool.and_eq_true, decide_eq_true_eq] at d
      simp only [impl_IsName.l0]
      rw [if_pos (in_lt h), if_pos (by omega), bt_L h, in_next h hs]
      repeat' split
      all_goals first | rfl | omega
    · refine Ev.step (f := fun _ => some false) (fun k => ?_) (ev_same (Ev.now _) (by rw [List.all_cons, Bool.eq_false_iff.2 d, Bool.false_and]))
      simp only [okB, dig, Bool.or_eq_true, Bool.and_eq_true, decide_eq_true_eq] at d
      simp only [impl_IsName.l0]
      rw [if_pos (in_lt h), if_pos (by omega), bt_L h, in_next h hs]
      repeat' split
      all_goals first | rfl | omega
theorem spec_low (c : UInt8) : spec_l01Small.f (c.toNat : Int) = some (lowB c) := by
  unfold spec_l01Small.f lowB
  by_cases h : (c.toNat : Int) ≥ 97
  · rw [if_pos h, decide_eq_true (p := 97 ≤ (c.toNat : Int)) h, Bool.true_and]
  · rw [if_neg h, decide_eq_false (p := 97 ≤ (c.toNat : Int)) (by omega), Bool.false_and]
theorem spec_name_loop (s : ByteArray) (hs : s.size < 9223372036854775807) : ∀ (ys pre : Bs), L s = pre ++ ys → Ev (fun k => spec_IsName.l0 k s (pre.length : Int)) (ys.all okB)
  | [], pre, h => by
    refine Ev.step (f := fun _ => some true) (fun k => ?_) (Ev.now _)
    simp only [spec_IsName.l0]
    rw [if_neg (in_end h)]
  | c :: ys, pre, h => by
    have hk : okB c = (lowB c || dig c || decide ((c.toNat : Int) = 45)) := rfl
    by_cases d : okB c = true
    · refine Ev.step (fun k => ?_) (ev_same (spec_name_loop s hs ys (pre ++ [c]) (in_snoc h)) (by rw [List.all_cons, d, Bool.true_and]))
      rw [hk] at d
      simp only [spec_IsName.l0]
      rw [if_pos (in_lt h), if_pos (by omega), bt_L h, in_next h hs, spec_low, spec_dig]
      simp only [Option.bind_some]
      by_cases d1 : lowB c = true
      · rw [if_pos d1]
      · rw [if_neg d1]
        by_cases d2 : dig c = true
        · rw [if_pos d2]
        · rw [if_neg d2]
          rw [Bool.eq_false_iff.2 d1, Bool.eq_false_iff.2 d2] at d
          rw [if_pos (by simpa using d)]
    · refine Ev.step (f := fun _ => some false) (fun k => ?_) (ev_same (Ev.now _) (by rw [List.all_cons, Bool.eq_false_iff.2 d, Bool.false_and]))
      rw [hk] at d
      simp only [Bool.or_eq_true, not_or, decide_eq_true_eq] at d
      simp only [spec_IsName.l0]
      rw [if_pos (in_lt h), if_pos (by omega), bt_L h, in_next h hs, spec_low, spec_dig]
      simp only [Option.bind_some]
      rw [if_neg d.1.1, if_neg d.1.2, if_neg d.2]
theorem name_head (s : ByteArray) (h : 0 < s.size) : bt s 0 = (((L s).headD 0).toNat : Int) := by
  cases hc : L s with
  | nil => rw [size_L, hc] at h; simp at h
  | cons x xs => exact bt_L (pre := []) hc
theorem nameL_long {s : Bs} (h : ¬ (1 ≤ s.length ∧ s.length ≤ 12)) : nameL s = false := by
  unfold nameL; rw [decide_eq_false h]; rfl
theorem nameL_head {s : Bs} (h : lowB (s.headD 0) = false) : nameL s = false := by
  unfold nameL; rw [h]; simp
theorem nameL_body {s : Bs} (h : 1 ≤ s.length ∧ s.length ≤ 12) (h2 : lowB (s.headD 0) = true) : nameL s = s.all okB := by
  unfold nameL; rw [decide_eq_true h, h2]; simp
theorem impl_name (s : ByteArray) : Ev (fun k => impl_IsName.f k s) (nameL (L s)) := by
  by_cases c0 : (s.size : Int) < 1
  · refine Ev.step (f := fun k => some false) (fun k => ?_) (ev_same (Ev.now _) (nameL_long (by rw [← size_L]; omega)).symm)
    unfold impl_IsName.f
    rw [if_pos c0]
    simp [impl_IsName.j0]
  by_cases c1 : (s.size : Int) > 12
  · refine Ev.step (f := fun k => some false) (fun k => ?_) (ev_same (Ev.now _) (nameL_long (by rw [← size_L]; omega)).symm)
    unfold impl_IsName.f
    rw [if_neg c0, if_pos c1]
    simp [impl_IsName.j0]
  have hl : 1 ≤ (L s).length ∧ (L s).length ≤ 12 := by rw [← size_L]; omega
  have hh := name_head s (by omega)
  by_cases c2 : lowB ((L s).headD 0) = true
  · refine Ev.step (f := fun k => impl_IsName.l0 k s (([] : Bs).length : Int)) (fun k => ?_) (ev_same (impl_name_loop s (by omega) (L s) [] rfl) (nameL_body hl c2).symm)
    simp only [lowB, Bool.and_eq_true, decide_eq_true_eq] at c2
    unfold impl_IsName.f
    rw [if_neg c0, if_neg c1, if_pos (by omega), hh, if_neg (by omega), decide_eq_false (by omega)]
    simp [impl_IsName.j0]
  · refine Ev.step (f := fun k => some false) (fun k => ?_) (ev_same (Ev.now _) (nameL_head (Bool.eq_false_iff.2 c2)).symm)
    simp only [lowB, Bool.and_eq_true, decide_eq_true_eq] at c2
    unfold impl_IsName.f
    rw [if_neg c0, if_neg c1, if_pos (by omega), hh]
    by_cases c3 : (((L s).headD 0).toNat : Int) < 97
    · rw [if_pos c3]
      simp [impl_IsName.j0]
    · rw [if_neg c3, decide_eq_true (by omega)]
      simp [impl_IsName.j0]
theorem spec_name (s : ByteArray) : Ev (fun k => spec_IsName.f k s) (nameL (L s)) := by
  by_cases c0 : s.toList = []
  · refine Ev.step (f := fun k => some false) (fun k => ?_) (ev_same (Ev.now _) (nameL_long (by rw [← toList_L, c0]; simp)).symm)
    unfold spec_IsName.f
    rw [if_pos c0]
    simp [spec_IsName.j0]
  have cz : ¬ s.size = 0 := fun h => c0 (by rw [toList_L]; exact List.eq_nil_of_length_eq_zero (by rw [← size_L]; exact h))
  by_cases c1 : (s.size : Int) > 12
  · refine Ev.step (f := fun k => some false) (fun k => ?_) (ev_same (Ev.now _) (nameL_long (by rw [← size_L]; omega)).symm)
    unfold spec_IsName.f
    rw [if_neg c0, if_pos c1]
    simp [spec_IsName.j0]
  have hl : 1 ≤ (L s).length ∧ (L s).length ≤ 12 := by rw [← size_L]; omega
  have hh := name_head s (by omega)
  by_cases c2 : lowB ((L s).headD 0) = true
  · refine Ev.step (f := fun k => spec_IsName.l0 k s (([] : Bs).length : Int)) (fun k => ?_) (ev_same (spec_name_loop s (by omega) (L s) [] rfl) (nameL_body hl c2).symm)
    unfold spec_IsName.f
    rw [if_neg c0, if_neg c1, if_pos (by omega), hh, spec_low, c2]
    simp [spec_IsName.j0]
  · refine Ev.step (f := fun k => some false) (fun k => ?_) (ev_same (Ev.now _) (nameL_head (Bool.eq_false_iff.2 c2)).symm)
    unfold spec_IsName.f
    rw [if_neg c0, if_neg c1, if_pos (by omega), hh, spec_low, Bool.eq_false_iff.2 c2]
    simp [spec_IsName.j0]

/-! ### entries -/
theorem text_bad {c : UInt8} (e : ¬ (32 ≤ (c.toNat : Int) ∧ (c.toNat : Int) ≤ 126)) (ys : Bs) : textL (c :: ys) = false := by
  have hb : (decide (32 ≤ (c.toNat : Int)) && decide ((c.toNat : Int) ≤ 126)) = false := by
    rw [← Bool.not_eq_true, Bool.and_eq_true, decide_eq_true_eq, decide_eq_true_eq]; exact e
  unfold textL
  rw [List.all_cons, hb, Bool.false_and]
def inB (n lo hi : Int) : Bool := decide (lo ≤ n ∧ n ≤ hi)
theorem spec_in (n lo hi : Int) : spec_l00In.f n lo hi = some (inB n lo hi) := by
  unfold spec_l00In.f inB
  by_cases c : n ≥ lo
  · rw [if_pos c]; congr 1; simp; omega
  · rw [if_neg c]; congr 1; symm; simp; omega
theorem impl_in (n lo hi : Int) : impl_within.f n lo hi = some (inB n lo hi) := by
  unfold impl_within.f inB
  by_cases c : n ≥ lo
  · rw [if_pos c]; congr 1; simp; omega
  · rw [if_neg c]; congr 1; symm; simp; omega
theorem impl_text_loop (d : Int) (kd t : ByteArray) (hs : t.size < 9223372036854775807) : ∀ (ys pre : Bs), L t = pre ++ ys → Ev (fun k => impl_ValidEntry.l0 k (pre.length : Int) d kd t) (textL ys)
  | [], pre, h => by
    refine Ev.step (f := fun _ => some true) (fun k => ?_) (Ev.now _)
    simp only [impl_ValidEntry.l0]
    rw [if_neg (in_end h)]
  | c :: ys, pre, h => by
    by_cases e : 32 ≤ (c.toNat : Int) ∧ (c.toNat : Int) ≤ 126
    · refine Ev.step (fun k => ?_) (ev_same (impl_text_loop d kd t hs ys (pre ++ [c]) (in_snoc h)) (by simp [textL, e.1, e.2]))
      simp only [impl_ValidEntry.l0]
      rw [if_pos (in_lt h), if_pos (by omega), bt_L h, in_next h hs, if_neg (by omega), if_neg (by omega)]
    · refine Ev.step (f := fun _ => some false) (fun k => ?_) (ev_same (Ev.now _) (by rw [text_bad e ys]))
      simp only [impl_ValidEntry.l0]
      rw [if_pos (in_lt h), if_pos (by omega), bt_L h]
      by_cases g : (c.toNat : Int) < 32
      · rw [if_pos g]
      · rw [if_neg g, if_pos (by omega)]
def toE (d : Int) (kd t : ByteArray) : E := ⟨d, L kd, L t⟩
theorem validE_eq (d : Int) (kd t : ByteArray) : validE (toE d kd t) = (inB d 0 20000 && (nameL (L kd) && (decide (t.size ≤ 60) && textL (L t)))) := by
  rw [size_L]; rfl
theorem impl_valid (d : Int) (kd t : ByteArray) : Ev (fun k => impl_ValidEntry.f k d kd t) (validE (toE d kd t)) := by
  rw [validE_eq]
  have hF : ∀ (b : Bool) (q : Bool), b = false → q = true → Ev (fun k => impl_ValidEntry.j0 k q d kd t) b := fun b q hb hq => by
    rw [hb, hq]
    exact Ev.step (f := fun _ => some false) (fun k => by simp [impl_ValidEntry.j0]) (Ev.now _)
  by_cases c1 : inB d 0 20000 = true
  · rw [c1, Bool.true_and]
    refine Ev.congr (f := fun k => (impl_IsName.f k kd).bind fun t213 => (if t213 = true then (impl_ValidEntry.j0 k (decide ((t.size : Int) > 60)) d kd t) else (impl_ValidEntry.j0 k true d kd t))) (fun k => by unfold impl_ValidEntry.f; rw [impl_in, c1]; rfl) (Ev.bind (impl_name kd) ?_)
    by_cases c2 : nameL (L kd) = true
    · simp only [c2, if_true, Bool.true_and]
      by_cases c3 : t.size ≤ 60
      · rw [decide_eq_true c3, Bool.true_and, decide_eq_false (by omega)]
        exact Ev.step (fun k => by simp [impl_ValidEntry.j0]) (impl_text_loop d kd t (by omega) (L t) [] rfl)
      · rw [decide_eq_false c3, Bool.false_and, decide_eq_true (by omega)]
        exact hF _ _ rfl rfl
    · simp only [Bool.eq_false_iff.2 c2, Bool.false_and, Bool.false_eq_true, if_false]
      exact hF _ _ rfl rfl
  · rw [Bool.eq_false_iff.2 c1, Bool.false_and]
    refine Ev.congr (f := fun k => impl_ValidEntry.j0 k true d kd t) (fun k => by unfold impl_ValidEntry.f; rw [impl_in, Bool.eq_false_iff.2 c1]; rfl) (hF _ _ rfl rfl)
theorem spec_text_loop (t : ByteArray) (m : Int) (hs : t.size < 9223372036854775807) : ∀ (ys pre : Bs), L t = pre ++ ys → Ev (fun k => spec_l00Text.l0 k t m (pre.length : Int)) (textL ys && decide ((t.size : Int) ≤ m))
  | [], pre, h => by
    refine Ev.step (f := fun _ => some (decide ((t.size : Int) ≤ m))) (fun k => ?_) (ev_same (Ev.now _) (by simp [textL]))
    simp only [spec_l00Text.l0]
    rw [if_neg (in_end h)]
  | c :: ys, pre, h => by
    by_cases e : 32 ≤ (c.toNat : Int) ∧ (c.toNat : Int) ≤ 126
    · refine Ev.step (fun k => ?_) (ev_same (spec_text_loop t m hs ys (pre ++ [c]) (in_snoc h)) (by simp [textL, e.1, e.2]))
      simp only [spec_l00Text.l0]
      rw [if_pos (in_lt h), if_pos (by omega), bt_L h, in_next h hs, if_neg (by omega), if_neg (by omega)]
    · refine Ev.step (f := fun _ => some false) (fun k => ?_) (ev_same (Ev.now _) (by rw [text_bad e ys]; rfl))
      simp only [spec_l00Text.l0]
      rw [if_pos (in_lt h), if_pos (by omega), bt_L h]
      by_cases g : (c.toNat : Int) < 32
      · rw [if_pos g]
      · rw [if_neg g, if_pos (by omega)]
theorem rdT39_one (y : S39) : rd_T39 [y] 0 = y := by unfold rd_T39; simp
def e39 (x : S39) : E := toE x.f0 x.f1 x.f2
theorem spec_valid (x : S39) (hs : x.f2.size < 9223372036854775807) : Ev (fun k => spec_l27One.f k [x]) (validE (e39 x)) := by
  unfold e39
  rw [validE_eq]
  by_cases c1 : inB x.f0 0 20000 = true
  · rw [c1, Bool.true_and]
    refine Ev.congr (f := fun k => (spec_IsName.f k x.f1).bind fun t272 => (if t272 = true then ((spec_l00Text.f k x.f2 60).bind fun t273 => (some t273)) else (some false))) (fun k => by unfold spec_l27One.f; rw [rdT39_one, spec_in, c1]; rfl) (Ev.bind (spec_name x.f1) ?_)
    by_cases c2 : nameL (L x.f1) = true
    · simp only [c2, if_true, Bool.true_and]
      have := spec_text_loop x.f2 60 hs (L x.f2) [] rfl
      refine Ev.bind (f := fun _ t => some t) (ev_same this ?_) (Ev.now _)
      rw [Bool.and_comm]
      congr 1
      simp; omega
    · simp only [Bool.eq_false_iff.2 c2, Bool.false_and, Bool.false_eq_true, if_false]
      exact Ev.now _
  · rw [Bool.eq_false_iff.2 c1, Bool.false_and]
    exact Ev.congr (f := fun _ => some false) (fun k => by unfold spec_l27One.f; rw [rdT39_one, spec_in, Bool.eq_false_iff.2 c1]; rfl) (Ev.now _)
end Go.Proofs.YtajbomiaoncgiaaDoor.QPL
