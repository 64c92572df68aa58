/- The plain law of FnExactCheapestHands: names, hands that are valid, sums, pay. -/
import Derived.Test.YtjmjmpbphhbmpaaCh8
namespace Go.Proofs.Ytjmjmpbphhbmpaa.QCH
open Go.RowKit Go.Proofs.YtjmjmpbphhbmpaaQ Go.Proofs.YtjmjmpbphhbmpaaW.PrintWords Go.Proofs.YtjmjmpbphhbmpaaW.PrintLast Go.Proofs.YtjmjmpbphhbmpaaW.PrintMore

/-! ### names -/
def okc (c : Int) : Bool := decide (97 ≤ c ∧ c ≤ 122) || decide (48 ≤ c ∧ c ≤ 57) || decide (c = 45)
def okfrom (s : ByteArray) : Nat → Nat → Bool
  | _, 0 => true
  | i, n + 1 => okc (bt s i) && okfrom s (i + 1) n
def nameB (s : ByteArray) : Bool := decide (1 ≤ s.size ∧ s.size ≤ 12) && decide (97 ≤ bt s 0 ∧ bt s 0 ≤ 122) && okfrom s 0 s.size
theorem spec_name_loop (s : ByteArray) (hs : s.size < 9223372036854775807) : ∀ (n i : Nat), i + n = s.size → Ev (fun k => spec_IsName.l0 k s (i : Int)) (okfrom s i n)
  | 0, i, h => by
    refine Ev.step (f := fun _ => some true) (fun k => ?_) (Ev.now _)
    simp only [spec_IsName.l0]
    rw [if_neg (by omega)]
  | n + 1, i, h => by
    have hw : wrap64 ((i : Int) + 1) = ((i + 1 : Nat) : Int) := by rw [w64 (by omega) (by omega)]; omega
    have ih := spec_name_loop s hs n (i + 1) (by omega)
    by_cases c : okc (bt s i) = true
    · refine Ev.step (f := fun k => spec_IsName.l0 k s ((i + 1 : Nat) : Int)) (fun k => ?_) (by rw [okfrom, c]; exact ih)
      simp only [spec_IsName.l0, spec_l01Small.f, spec_l01Digit.f]
      rw [if_pos (by omega), if_pos (by omega), hw]
      simp only [okc, Bool.or_eq_true, decide_eq_true_eq] at c
      repeat' split
      all_goals simp only [Option.bind_some] at *
      all_goals first | rfl | (repeat' split) <;> simp_all <;> omega
    · refine Ev.step (f := fun k => some false) (fun k => ?_) (by rw [okfrom, Bool.eq_false_iff.2 c]; exact Ev.now _)
      simp only [spec_IsName.l0, spec_l01Small.f, spec_l01Digit.f]
      rw [if_pos (by omega), if_pos (by omega), hw]
      simp only [okc, Bool.or_eq_true, decide_eq_true_eq] at c
      repeat' split
      all_goals simp only [Option.bind_some] at *
      all_goals first | rfl | (repeat' split) <;> simp_all <;> omega
theorem impl_name_loop (s : ByteArray) (hs : s.size < 9223372036854775807) : ∀ (n i : Nat), i + n = s.size → Ev (fun k => impl_IsName.l0 k s (i : Int)) (okfrom s i n)
  | 0, i, h => by
    refine Ev.step (f := fun _ => some true) (fun k => ?_) (Ev.now _)
    simp only [impl_IsName.l0]
    rw [if_neg (by omega)]
  | n + 1, i, h => by
    have hw : wrap64 ((i : Int) + 1) = ((i + 1 : Nat) : Int) := by rw [w64 (by omega) (by omega)]; omega
    have ih := impl_name_loop s hs n (i + 1) (by omega)
    by_cases c : okc (bt s i) = true
    · refine Ev.step (f := fun k => impl_IsName.l0 k s ((i + 1 : Nat) : Int)) (fun k => ?_) (by rw [okfrom, c]; exact ih)
      simp only [impl_IsName.l0]
      rw [if_pos (by omega), if_pos (by omega), hw]
      simp only [okc, Bool.or_eq_true, decide_eq_true_eq] at c
      repeat' split
      all_goals first | rfl | omega
    · refine Ev.step (f := fun k => some false) (fun k => ?_) (by rw [okfrom, Bool.eq_false_iff.2 c]; exact Ev.now _)
      simp only [impl_IsName.l0]
      rw [if_pos (by omega), if_pos (by omega), hw]
      simp only [okc, Bool.or_eq_true, decide_eq_true_eq] at c
      repeat' split
      all_goals first | rfl | omega
theorem bytes_nil (s : ByteArray) : s.toList = [] ↔ s.size = 0 := by
  rw [ByteArray.toList_eq, ← List.length_eq_zero_iff, Array.length_toList]
  exact Iff.rfl
theorem spec_name (s : ByteArray) : Ev (fun k => spec_IsName.f k s) (nameB s) := by
  by_cases c0 : s.size = 0
  · refine Ev.step (f := fun k => some false) (fun k => ?_) (by simp [nameB, c0]; exact Ev.now _)
    unfold spec_IsName.f
    rw [if_pos ((bytes_nil s).2 c0)]
    simp [spec_IsName.j0]
  by_cases c1 : (s.size : Int) > 12
  · refine Ev.step (f := fun k => some false) (fun k => ?_) (by rw [nameB, decide_eq_false (by omega)]; exact Ev.now _)
    unfold spec_IsName.f
    rw [if_neg (fun h => c0 ((bytes_nil s).1 h)), if_pos c1]
    simp [spec_IsName.j0]
  by_cases c2 : 97 ≤ bt s 0 ∧ bt s 0 ≤ 122
  · refine Ev.step (f := fun k => spec_IsName.l0 k s ((0 : Nat) : Int)) (fun k => ?_) (by rw [nameB, decide_eq_true (by omega), decide_eq_true c2]; exact spec_name_loop s (by omega) s.size 0 (by omega))
    unfold spec_IsName.f spec_l01Small.f
    rw [if_neg (fun h => c0 ((bytes_nil s).1 h)), if_neg c1, if_pos (by omega), if_pos c2.1, decide_eq_true c2.2]
    simp [spec_IsName.j0]
  · refine Ev.step (f := fun k => some false) (fun k => ?_) (by rw [nameB, decide_eq_false c2]; simp; exact Ev.now _)
    unfold spec_IsName.f spec_l01Small.f
    rw [if_neg (fun h => c0 ((bytes_nil s).1 h)), if_neg c1, if_pos (by omega)]
    by_cases c3 : bt s 0 ≥ 97
    · rw [if_pos c3, decide_eq_false (by omega)]
      simp [spec_IsName.j0]
    · rw [if_neg c3]
      simp [spec_IsName.j0]
theorem impl_name (s : ByteArray) : Ev (fun k => impl_IsName.f k s) (nameB s) := by
  by_cases c0 : s.size = 0
  · refine Ev.step (f := fun k => some false) (fun k => ?_) (by simp [nameB, c0]; exact Ev.now _)
    unfold impl_IsName.f
    rw [if_pos (by omega)]
    simp [impl_IsName.j0]
  by_cases c1 : (s.size : Int) > 12
  · refine Ev.step (f := fun k => some false) (fun k => ?_) (by rw [nameB, decide_eq_false (by omega)]; exact Ev.now _)
    unfold impl_IsName.f
    rw [if_neg (by omega), if_pos c1]
    simp [impl_IsName.j0]
  by_cases c2 : 97 ≤ bt s 0 ∧ bt s 0 ≤ 122
  · refine Ev.step (f := fun k => impl_IsName.l0 k s ((0 : Nat) : Int)) (fun k => ?_) (by rw [nameB, decide_eq_true (by omega), decide_eq_true c2]; exact impl_name_loop s (by omega) s.size 0 (by omega))
    unfold impl_IsName.f
    rw [if_neg (by omega), if_neg c1, if_pos (by omega), if_neg (by omega), decide_eq_false (by omega)]
    simp [impl_IsName.j0]
  · refine Ev.step (f := fun k => some false) (fun k => ?_) (by rw [nameB, decide_eq_false c2]; simp; exact Ev.now _)
    unfold impl_IsName.f
    rw [if_neg (by omega), if_neg c1, if_pos (by omega)]
    by_cases c3 : bt s 0 < 97
    · rw [if_pos c3]
      simp [impl_IsName.j0]
    · rw [if_neg c3, decide_eq_true (by omega)]
      simp [impl_IsName.j0]

/-! ### one hand -/
def inB (n lo hi : Int) : Bool := decide (lo ≤ n ∧ n ≤ hi)
theorem spec_in (n lo hi : Int) : spec_l00In.f n lo hi = some (inB n lo hi) := by
  unfold spec_l00In.f inB
  by_cases c : n ≥ lo
  · rw [if_pos c]; congr 1; simp; omega
  · rw [if_neg c]; congr 1; symm; simp; omega
theorem impl_in (n lo hi : Int) : impl_within.f n lo hi = some (inB n lo hi) := by
  unfold impl_within.f inB
  by_cases c : n ≥ lo
  · rw [if_pos c]; congr 1; simp; omega
  · rw [if_neg c]; congr 1; symm; simp; omega
def oneB (x : S43) : Bool := (x.f1.all fun m => inB m 0 1440) && (nameB x.f0 && (decide (x.f1.length ≤ 14) && inB x.f2 0 100000))
theorem rdT43_mid (pre ys : List S43) (y : S43) : rd_T43 (pre ++ y :: ys) (pre.length : Int) = y := get_mid ..
theorem rdT43_one (y : S43) : rd_T43 [y] 0 = y := (rdT43_mid [] [] y)
theorem one_loop (x : S43) (hl : (x.f1.length : Int) < 9223372036854775807) :
    ∀ (ys pre : List Int), x.f1 = pre ++ ys → Ev (fun k => spec_l26One.l0 k [x] (pre.length : Int)) ((ys.all fun m => inB m 0 1440) && (nameB x.f0 && (decide (x.f1.length ≤ 14) && inB x.f2 0 100000)))
  | [], pre, e => by
    refine Ev.step (f := fun k => (spec_IsName.f k x.f0).bind fun t => some (t && (decide (x.f1.length ≤ 14) && inB x.f2 0 100000))) (fun k => ?_) (Ev.bind (spec_name x.f0) (Ev.now _))
    simp only [spec_l26One.l0, rdT43_one, spec_in]
    rw [if_neg (by rw [e]; exact len_end _)]
    congr 1
    funext t
    cases t
    · rfl
    · simp only [if_true, Option.bind_some]
      by_cases c : x.f1.length ≤ 14
      · rw [if_pos (by omega), decide_eq_true c]; simp
      · rw [if_neg (by omega), decide_eq_false c]; simp
  | y :: ys, pre, e => by
    have hn : wrap64 ((pre.length : Int) + 1) = (((pre ++ [y]).length : Nat) : Int) := next_mid _ _ (by rw [e] at hl; simp at hl; omega)
    have ih := one_loop x hl ys (pre ++ [y]) (by rw [e]; simp)
    have hr : rd x.f1 (pre.length : Int) = y := by rw [e]; exact rd_mid _ _ _
    have hp : ((pre.length : Nat) : Int) < (x.f1.length : Int) := by rw [e]; exact len_mid _ _ _
    by_cases c : inB y 0 1440 = true
    · refine Ev.step (fun k => ?_) (by rw [List.all_cons, c, Bool.true_and]; exact ih)
      simp only [spec_l26One.l0, rdT43_one, spec_in]
      rw [if_pos hp, if_pos (by omega), hr, c, hn]
      rfl
    · refine Ev.step (f := fun _ => some false) (fun k => ?_) (by rw [List.all_cons, Bool.eq_false_iff.2 c]; exact Ev.now _)
      simp only [spec_l26One.l0, rdT43_one, spec_in]
      rw [if_pos hp, if_pos (by omega), hr, Bool.eq_false_iff.2 c]
      rfl
theorem spec_one (x : S43) (hl : (x.f1.length : Int) < 9223372036854775807) : Ev (fun k => spec_l26One.f k [x]) (oneB x) := one_loop x hl x.f1 [] rfl
theorem are_loop (l : List Int) (lo hi : Int) (hl : (l.length : Int) < 9223372036854775807) :
    ∀ (ys pre : List Int), l = pre ++ ys → Ev (fun k => impl_areIn.l0 k lo hi l (l.length : Int) (pre.length : Int)) (ys.all fun m => inB m lo hi)
  | [], pre, e => by
    refine Ev.step (f := fun _ => some true) (fun k => ?_) (Ev.now _)
    simp only [impl_areIn.l0]
    rw [if_neg (by rw [e]; exact len_end _)]
  | y :: ys, pre, e => by
    have hn : wrap64 ((pre.length : Int) + 1) = (((pre ++ [y]).length : Nat) : Int) := next_mid _ _ (by rw [e] at hl; simp at hl; omega)
    have ih := are_loop l lo hi hl ys (pre ++ [y]) (by rw [e]; simp)
    have hr : rd l (pre.length : Int) = y := by rw [e]; exact rd_mid _ _ _
    have hp : ((pre.length : Nat) : Int) < (l.length : Int) := by rw [e]; exact len_mid _ _ _
    by_cases c : inB y lo hi = true
    · refine Ev.step (fun k => ?_) (by rw [List.all_cons, c, Bool.true_and]; exact ih)
      simp only [impl_areIn.l0, impl_in]
      rw [if_pos hp, if_pos (by omega), if_pos hp, hr, c, hn]
      rfl
    · refine Ev.step (f := fun _ => some false) (fun k => ?_) (by rw [List.all_cons, Bool.eq_false_iff.2 c]; exact Ev.now _)
      simp only [impl_areIn.l0, impl_in]
      rw [if_pos hp, if_pos (by omega), if_pos hp, hr, Bool.eq_false_iff.2 c]
      rfl
theorem impl_are (l : List Int) (lo hi : Int) (hl : (l.length : Int) < 9223372036854775807) : Ev (fun k => impl_areIn.f k l (l.length : Int) lo hi) (l.all fun m => inB m lo hi) := by
  refine Ev.congr (fun k => ?_) (are_loop l lo hi hl l [] rfl)
  unfold impl_areIn.f
  rw [if_pos rfl]
  rfl
theorem impl_one (x : S43) (hl : (x.f1.length : Int) < 9223372036854775807) : Ev (fun k => impl_validHand.f k x.f0 x.f1 x.f2) (oneB x) := by
  have h : Ev (fun k => (impl_IsName.f k x.f0).bind fun t => (impl_areIn.f k x.f1 (x.f1.length : Int) 0 1440).bind fun a => some (a && (t && (decide (x.f1.length ≤ 14) && inB x.f2 0 100000)))) (oneB x) :=
    Ev.bind (impl_name x.f0) (Ev.bind (impl_are x.f1 0 1440 hl) (Ev.now _))
  obtain ⟨K, h⟩ := h
  obtain ⟨K2, h2⟩ := impl_are x.f1 0 1440 hl
  refine ⟨max K K2, fun k hk => ?_⟩
  rw [← h k (by omega)]
  have h2 := h2 k (by omega)
  unfold impl_validHand.f
  dsimp only
  congr 1
  funext t
  dsimp only at h2
  rw [h2, impl_in]
  cases t
  · simp
  · simp only [if_true, Option.bind_some]
    by_cases c : x.f1.length ≤ 14
    · rw [if_pos (by omega), decide_eq_true c]
      cases (x.f1.all fun m => inB m 0 1440) <;> simp
    · rw [if_neg (by omega), decide_eq_false c]
      simp
end Go.Proofs.Ytjmjmpbphhbmpaa.QCH
