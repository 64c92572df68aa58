/- The plain law of FnCheapHands: lists of hands, sums, pay. -/
import Derived.Test.YtjmjmpbphhbmpaaDoorQCBx4
import Derived.Test.YtjmjmpbphhbmpaaDoorQCBx6
namespace Go.Proofs.YtjmjmpbphhbmpaaDoor.QCB
open Go.RowKit Go.Proofs.YtjmjmpbphhbmpaaDoorQ Go.Proofs.YtjmjmpbphhbmpaaDoorW.PrintWords Go.Proofs.YtjmjmpbphhbmpaaDoorW.PrintLast Go.Proofs.YtjmjmpbphhbmpaaDoorW.PrintMore

theorem w64 {n : Int} (h0 : -9223372036854775808 ≤ n) (h1 : n ≤ 9223372036854775807) : wrap64 n = n := by unfold wrap64; omega
theorem len_mid {α : Type} (pre ys : List α) (y : α) : ((pre.length : Nat) : Int) < ((pre ++ y :: ys).length : Int) := by simp; omega
theorem len_end {α : Type} (pre : List α) : ¬ ((pre.length : Nat) : Int) < ((pre ++ []).length : Int) := by simp
theorem next_mid {α : Type} (pre : List α) (y : α) (h : (pre.length : Int) < 9223372036854775807) : wrap64 ((pre.length : Int) + 1) = (((pre ++ [y]).length : Nat) : Int) := by
  rw [w64 (by omega) (by omega)]; simp
theorem get_mid {α : Type} (pre ys : List α) (y d : α) : (pre ++ y :: ys).getD ((pre.length : Nat) : Int).toNat d = y := by simp [List.getD_eq_getElem?_getD]
theorem rd_mid (pre ys : List Int) (y : Int) : rd (pre ++ y :: ys) (pre.length : Int) = y := get_mid ..
theorem snoc {α : Type} (pre ys : List α) (y : α) : pre ++ y :: ys = (pre ++ [y]) ++ ys := by simp

theorem ev_and {p q : Nat → Prop} (h : ∃ K, ∀ k, K ≤ k → p k) (h2 : ∃ K, ∀ k, K ≤ k → q k) : ∃ K, ∀ k, K ≤ k → p k ∧ q k := by
  obtain ⟨a, ha⟩ := h
  obtain ⟨b, hb⟩ := h2
  exact ⟨max a b, fun k hk => ⟨ha k (by omega), hb k (by omega)⟩⟩
theorem ev_all {α : Type} (l : List α) {p : Nat → α → Prop} (h : ∀ x ∈ l, ∃ K, ∀ k, K ≤ k → p k x) : ∃ K, ∀ k, K ≤ k → ∀ x ∈ l, p k x := by
  induction l with
  | nil => exact ⟨0, fun k _ x hx => by cases hx⟩
  | cons y ys ih =>
    obtain ⟨a, ha⟩ := h y (by simp)
    obtain ⟨b, hb⟩ := ih (fun x hx => h x (by simp [hx]))
    refine ⟨max a b, fun k hk x hx => ?_⟩
    rcases List.mem_cons.1 hx with rfl | hx
    · exact ha k (by omega)
    · exact hb k (by omega) x hx

def okc (c : Int) : Bool := decide (97 ≤ c ∧ c ≤ 122) || decide (48 ≤ c ∧ c ≤ 57) || decide (c = 45)
def okfrom (s : ByteArray) : Nat → Nat → Bool
  | _, 0 => true
  | i, n + 1 => okc (bt s i) && okfrom s (i + 1) n
def nameB (s : ByteArray) : Bool := decide (1 ≤ s.size ∧ s.size ≤ 12) && decide (97 ≤ bt s 0 ∧ bt s 0 ≤ 122) && okfrom s 0 s.size
theorem impl_name_loop (s : ByteArray) (hs : s.size < 9223372036854775807) : ∀ (n i : Nat), i + n = s.size → Ev (fun k => impl_IsName.l0 k s (i : Int)) (okfrom s i n)
  | 0, i, h => by
    refine Ev.step (f := fun _ => some true) (fun k => ?_) (Ev.now _)
    simp only [impl_IsName.l0]
    rw [if_neg (by omega)]
  | n + 1, i, h => by
    have hw : wrap64 ((i : Int) + 1) = ((i + 1 : Nat) : Int) := by rw [w64 (by omega) (by omega)]; omega
    have ih := impl_name_loop s hs n (i + 1) (by omega)
    by_cases c : okc (bt s i) = true
    · refine Ev.step (f := fun k => impl_IsName.l0 k s ((i + 1 : Nat) : Int)) (fun k => ?_) (by rw [okfrom, c]; exact ih)
      simp only [impl_IsName.l0]
      rw [if_pos (by omega), if_pos (by omega), hw]
      simp only [okc, Bool.or_eq_true, decide_eq_true_eq] at c
      repeat' split
      all_goals first | rfl | omega
    · refine Ev.step (f := fun k => some false) (fun k => ?_) (by rw [okfrom, Bool.eq_false_iff.2 c]; exact Ev.now _)
      simp only [impl_IsName.l0]
      rw [if_pos (by omega), if_pos (by omega), hw]
      simp only [okc, Bool.or_eq_true, decide_eq_true_eq] at c
      repeat' split
      all_goals first | rfl | omega
theorem bytes_nil (s : ByteArray) : s.toList = [] ↔ s.size = 0 := by
  rw [ByteArray.toList_eq, ← List.length_eq_zero_iff, Array.length_toList]
  exact Iff.rfl
theorem impl_name (s : ByteArray) : Ev (fun k => impl_IsName.f k s) (nameB s) := by
  by_cases c0 : s.size = 0
  · refine Ev.step (f := fun k => some false) (fun k => ?_) (by simp [nameB, c0]; exact Ev.now _)
    unfold impl_IsName.f
    rw [if_pos (by omega)]
    simp [impl_IsName.j0]
  by_cases c1 : (s.size : Int) > 12
  · refine Ev.step (f := fun k => some false) (fun k => ?_) (by rw [nameB, decide_eq_false (by omega)]; exact Ev.now _)
    unfold impl_IsName.f
    rw [if_neg (by omega), if_pos c1]
    simp [impl_IsName.j0]
  by_cases c2 : 97 ≤ bt s 0 ∧ bt s 0 ≤ 122
  · refine Ev.step (f := fun k => impl_IsName.l0 k s ((0 : Nat) : Int)) (fun k => ?_) (by rw [nameB, decide_eq_true (by omega), decide_eq_true c2]; exact impl_name_loop s (by omega) s.size 0 (by omega))
    unfold impl_IsName.f
    rw [if_neg (by omega), if_neg c1, if_pos (by omega), if_neg (by omega), decide_eq_false (by omega)]
    simp [impl_IsName.j0]
  · refine Ev.step (f := fun k => some false) (fun k => ?_) (by rw [nameB, decide_eq_false c2]; simp; exact Ev.now _)
    unfold impl_IsName.f
    rw [if_neg (by omega), if_neg c1, if_pos (by omega)]
    by_cases c3 : bt s 0 < 97
    · rw [if_pos c3]
      simp [impl_IsName.j0]
    · rw [if_neg c3, decide_eq_true (by omega)]
      simp [impl_IsName.j0]

def inB (n lo hi : Int) : Bool := decide (lo ≤ n ∧ n ≤ hi)
theorem impl_in (n lo hi : Int) : impl_within.f n lo hi = some (inB n lo hi) := by
  unfold impl_within.f inB
  by_cases c : n ≥ lo
  · rw [if_pos c]; congr 1; simp; omega
  · rw [if_neg c]; congr 1; symm; simp; omega
def oneB (x : S33) : Bool := (x.f1.all fun m => inB m 0 1440) && (nameB x.f0 && (decide (x.f1.length ≤ 14) && inB x.f2 0 100000))
theorem rdT33_mid (pre ys : List S33) (y : S33) : rd_T33 (pre ++ y :: ys) (pre.length : Int) = y := get_mid ..
theorem rdT33_one (y : S33) : rd_T33 [y] 0 = y := (rdT33_mid [] [] y)
theorem are_loop (l : List Int) (lo hi : Int) (hl : (l.length : Int) < 9223372036854775807) :
    ∀ (ys pre : List Int), l = pre ++ ys → Ev (fun k => impl_areIn.l0 k lo hi l (l.length : Int) (pre.length : Int)) (ys.all fun m => inB m lo hi)
  | [], pre, e => by
    refine Ev.step (f := fun _ => some true) (fun k => ?_) (Ev.now _)
    simp only [impl_areIn.l0]
    rw [if_neg (by rw [e]; exact len_end _)]
  | y :: ys, pre, e => by
    have hn : wrap64 ((pre.length : Int) + 1) = (((pre ++ [y]).length : Nat) : Int) := next_mid _ _ (by rw [e] at hl; simp at hl; omega)
    have ih := are_loop l lo hi hl ys (pre ++ [y]) (by rw [e]; simp)
    have hr : rd l (pre.length : Int) = y := by rw [e]; exact rd_mid _ _ _
    have hp : ((pre.length : Nat) : Int) < (l.length : Int) := by rw [e]; exact len_mid _ _ _
    by_cases c : inB y lo hi = true
    · refine Ev.step (fun k => ?_) (by rw [List.all_cons, c, Bool.true_and]; exact ih)
      simp only [impl_areIn.l0, impl_in]
      rw [if_pos hp, if_pos (by omega), if_pos hp, hr, c, hn]
      rfl
    · refine Ev.step (f := fun _ => some false) (fun k => ?_) (by rw [List.all_cons, Bool.eq_false_iff.2 c]; exact Ev.now _)
      simp only [impl_areIn.l0, impl_in]
      rw [if_pos hp, if_pos (by omega), if_pos hp, hr, Bool.eq_false_iff.2 c]
      rfl
theorem impl_are (l : List Int) (lo hi : Int) (hl : (l.length : Int) < 9223372036854775807) : Ev (fun k => impl_areIn.f k l (l.length : Int) lo hi) (l.all fun m => inB m lo hi) := by
  refine Ev.congr (fun k => ?_) (are_loop l lo hi hl l [] rfl)
  unfold impl_areIn.f
  rw [if_pos rfl]
  rfl
theorem impl_one (x : S33) (hl : (x.f1.length : Int) < 9223372036854775807) : Ev (fun k => impl_validHand.f k x.f0 x.f1 x.f2) (oneB x) := by
  have h : Ev (fun k => (impl_IsName.f k x.f0).bind fun t => (impl_areIn.f k x.f1 (x.f1.length : Int) 0 1440).bind fun a => some (a && (t && (decide (x.f1.length ≤ 14) && inB x.f2 0 100000)))) (oneB x) :=
    Ev.bind (impl_name x.f0) (Ev.bind (impl_are x.f1 0 1440 hl) (Ev.now _))
  obtain ⟨K, h⟩ := h
  obtain ⟨K2, h2⟩ := impl_are x.f1 0 1440 hl
  refine ⟨max K K2, fun k hk => ?_⟩
  rw [← h k (by omega)]
  have h2 := h2 k (by omega)
  unfold impl_validHand.f
  dsimp only
  congr 1
  funext t
  dsimp only at h2
  rw [h2, impl_in]
  cases t
  · simp
  · simp only [if_true, Option.bind_some]
    by_cases c : x.f1.length ≤ 14
    · rw [if_pos (by omega), decide_eq_true c]
      cases (x.f1.all fun m => inB m 0 1440) <;> simp
    · rw [if_neg (by omega), decide_eq_false c]
      simp
def eqN (x y : S33) : Bool := x.f0.toList == y.f0.toList
def okFrom (pre : List S33) : List S33 → Bool
  | [] => true
  | x :: xs => oneB x && (!(pre.any fun p => eqN p x) && okFrom (pre ++ [x]) xs)
def okB (l : List S33) : Bool := okFrom [] l && decide (l.length ≤ 10)
theorem idx_any (t : ByteArray) : ∀ (l : List S33) (i : Nat), (idxFrom t l i ≥ 0) ↔ (l.any fun x => x.f0.toList == t.toList) = true
  | [], i => by simp [idxFrom]
  | x :: xs, i => by
    by_cases c : (x.f0.toList == t.toList) = true
    · rw [idxFrom, if_pos c]
      simp only [List.any_cons, c, Bool.true_or, iff_true]
      omega
    · rw [idxFrom, if_neg c, idx_any t xs (i + 1)]
      simp only [List.any_cons, Bool.eq_false_iff.2 c, Bool.false_or]
theorem vh_ok (ok : S33 → Bool) : ∀ (ys pre : List S33), (∀ x ∈ ys, ok x = oneB x) → vhFrom ok pre ys = okFrom pre ys
  | [], _, _ => rfl
  | x :: ys, pre, h => by
    rw [vhFrom, okFrom, h x (by simp), vh_ok ok ys (pre ++ [x]) (fun y hy => h y (by simp [hy]))]
    by_cases c : oneB x = true
    · rw [c, if_pos rfl]
      by_cases d : (pre.any fun p => eqN p x) = true
      · rw [if_pos ((idx_any x.f0 pre 0).2 d), d]; rfl
      · rw [if_neg (fun h => d ((idx_any x.f0 pre 0).1 h)), Bool.eq_false_iff.2 d]; rfl
    · rw [Bool.eq_false_iff.2 c]; rfl
theorem impl_ok (l : List S33) (hb : ∀ x ∈ l, (x.f1.length : Int) < 9223372036854775807) : Ev (fun k => impl_ValidHands.f k l) (okB l) := by
  obtain ⟨K, h⟩ := ev_all l (p := fun k x => impl_validHand.f k x.f0 x.f1 x.f2 = some (oneB x)) (fun x hx => impl_one x (hb x hx))
  refine ⟨K, fun k hk => ?_⟩
  have h := h k hk
  dsimp only
  unfold impl_ValidHands.f
  rw [if_pos (by rw [List.all_eq_true]; intro x hx; rw [hand_ok, h x hx]; rfl)]
  unfold vHands okB
  rw [vh_ok _ l [] (fun x hx => by rw [hand_ok, h x hx]; rfl)]
  by_cases c : (l.length : Int) > 10
  · rw [if_pos c, decide_eq_false (by omega)]; simp
  · rw [if_neg c, decide_eq_true (by omega)]; simp

def sumW (s : Int) : List Int → Int
  | [] => s
  | m :: ms => sumW (wrap64 (s + m)) ms
def extW (lim s : Int) : List Int → Int
  | [] => s
  | m :: ms => extW lim (wrap64 (s + mx 0 (wrap64 (m - lim)))) ms
theorem iext_loop (l : List Int) (lim : Int) (hl : (l.length : Int) < 9223372036854775807) :
    ∀ (ys pre : List Int) (s : Int), l = pre ++ ys → Ev (fun k => impl_extraMinutes.l0 k lim s l (l.length : Int) (pre.length : Int)) (extW lim s ys)
  | [], pre, s, e => by
    refine Ev.step (f := fun _ => some s) (fun k => ?_) (Ev.now _)
    simp only [impl_extraMinutes.l0]
    rw [if_neg (by rw [e]; exact len_end _)]
  | y :: ys, pre, s, e => by
    have hn : wrap64 ((pre.length : Int) + 1) = (((pre ++ [y]).length : Nat) : Int) := next_mid _ _ (by rw [e] at hl; simp at hl; omega)
    have hr : rd l (pre.length : Int) = y := by rw [e]; exact rd_mid _ _ _
    have hp : ((pre.length : Nat) : Int) < (l.length : Int) := by rw [e]; exact len_mid _ _ _
    refine Ev.step (fun k => ?_) (iext_loop l lim hl ys (pre ++ [y]) (wrap64 (s + mx 0 (wrap64 (y - lim)))) (by rw [e]; simp))
    simp only [impl_extraMinutes.l0]
    rw [if_pos hp, if_pos (by omega), if_pos hp, hr, hn]
theorem impl_ext (x : S33) (lim : Int) (hl : (x.f1.length : Int) < 9223372036854775807) : Ev (fun k => impl_extraMinutes.f k x.f0 x.f1 x.f2 lim) (extW lim 0 x.f1) := iext_loop x.f1 lim hl x.f1 [] 0 rfl
def payW (x : S33) : Int := wrap64 (Int.tdiv (wrap64 ((wrap64 ((wrap64 (x.f2 * sumW 0 x.f1)) * 100)) + (wrap64 ((wrap64 (x.f2 * extW 1440 0 x.f1)) * 0)))) 6000)
theorem ext_bound : ∀ (l : List Int) (lim s : Int), (∀ m ∈ l, 0 ≤ m ∧ m ≤ 1440) → 0 ≤ lim → lim ≤ 1440 → 0 ≤ s → s + l.length * 1440 ≤ 1000000 → 0 ≤ extW lim s l ∧ extW lim s l ≤ s + l.length * 1440
  | [], lim, s, _, _, _, h0, _ => by simp [extW]; exact h0
  | m :: ms, lim, s, h, hl0, hl1, h0, h1 => by
    have hm := h m (by simp)
    rw [List.length_cons] at h1
    have hx : 0 ≤ mx 0 (wrap64 (m - lim)) ∧ mx 0 (wrap64 (m - lim)) ≤ 1440 := by
      rw [w64 (by omega) (by omega)]; unfold mx; split <;> omega
    have := ext_bound ms lim (s + mx 0 (wrap64 (m - lim))) (fun q hq => h q (by simp [hq])) hl0 hl1 (by omega) (by omega)
    rw [extW, w64 (n := s + _) (by omega) (by omega), List.length_cons]
    omega
theorem sum_ext : ∀ (l : List Int) (s : Int), (∀ m ∈ l, 0 ≤ m ∧ m ≤ 1440) → extW 0 s l = sumW s l
  | [], s, _ => rfl
  | m :: ms, s, h => by
    have hm := h m (by simp)
    have hx : mx 0 (wrap64 (m - 0)) = m := by
      rw [w64 (by omega) (by omega)]; unfold mx; split <;> omega
    rw [extW, sumW, hx, sum_ext ms _ (fun q hq => h q (by simp [hq]))]
theorem one_facts {x : S33} (h : oneB x = true) : (∀ m ∈ x.f1, 0 ≤ m ∧ m ≤ 1440) ∧ x.f1.length ≤ 14 ∧ 0 ≤ x.f2 ∧ x.f2 ≤ 100000 := by
  simp only [oneB, inB, Bool.and_eq_true, List.all_eq_true, decide_eq_true_eq] at h
  exact ⟨h.1, h.2.2.1, h.2.2.2⟩
theorem pay_bound {x : S33} (h : oneB x = true) : 0 ≤ payW x ∧ payW x ≤ 100000000 := by
  obtain ⟨h1, h2, h3, h4⟩ := one_facts h
  have hs := ext_bound x.f1 0 0 h1 (by omega) (by omega) (by omega) (by omega)
  have he := ext_bound x.f1 1440 0 h1 (by omega) (by omega) (by omega) (by omega)
  rw [sum_ext _ _ h1] at hs
  have hq : 0 ≤ x.f2 * sumW 0 x.f1 ∧ x.f2 * sumW 0 x.f1 ≤ 100000 * 20160 := ⟨Int.mul_nonneg h3 hs.1, Int.mul_le_mul h4 (by omega) hs.1 (by omega)⟩
  have hr : 0 ≤ x.f2 * extW 1440 0 x.f1 ∧ x.f2 * extW 1440 0 x.f1 ≤ 100000 * 20160 := ⟨Int.mul_nonneg h3 he.1, Int.mul_le_mul h4 (by omega) he.1 (by omega)⟩
  have hd : payW x = (x.f2 * sumW 0 x.f1 * 100).tdiv 6000 := by
    unfold payW
    rw [w64 (n := x.f2 * sumW 0 x.f1) (by omega) (by omega), w64 (n := x.f2 * extW 1440 0 x.f1) (by omega) (by omega), w64 (n := x.f2 * sumW 0 x.f1 * 100) (by omega) (by omega)]
    rw [Int.mul_zero, w64 (n := 0) (by omega) (by omega), Int.add_zero, w64 (n := x.f2 * sumW 0 x.f1 * 100) (by omega) (by omega)]
    rw [Int.tdiv_eq_ediv_of_nonneg (by omega), w64 (by omega) (by omega)]
  rw [hd, Int.tdiv_eq_ediv_of_nonneg (by omega)]
  omega
theorem impl_pay (x : S33) (hl : (x.f1.length : Int) < 9223372036854775807) (h1 : ∀ m ∈ x.f1, 0 ≤ m ∧ m ≤ 1440) : Ev (fun k => impl_payOf.f k x.f0 x.f1 x.f2 1440 0) (payW x) := by
  unfold payW
  rw [← sum_ext _ _ h1]
  exact Ev.bind (impl_ext x 0 hl) (Ev.bind (impl_ext x 1440 hl) (Ev.now _))
end Go.Proofs.YtjmjmpbphhbmpaaDoor.QCB
