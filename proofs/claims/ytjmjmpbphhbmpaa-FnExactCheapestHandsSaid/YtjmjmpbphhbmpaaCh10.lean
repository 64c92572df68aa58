/- The plain law of FnExactCheapestHands: lists of hands, sums, pay, the search. -/
import Derived.Test.YtjmjmpbphhbmpaaCh9
namespace Go.Proofs.Ytjmjmpbphhbmpaa.QCH
open Go.RowKit Go.Proofs.YtjmjmpbphhbmpaaQ Go.Proofs.YtjmjmpbphhbmpaaW.PrintWords Go.Proofs.YtjmjmpbphhbmpaaW.PrintLast Go.Proofs.YtjmjmpbphhbmpaaW.PrintMore

/-! ### lists of hands -/
def eqN (x y : S43) : Bool := x.f0.toList == y.f0.toList
def okFrom (pre : List S43) : List S43 → Bool
  | [] => true
  | x :: xs => oneB x && (!(pre.any fun p => eqN p x) && okFrom (pre ++ [x]) xs)
def okB (l : List S43) : Bool := okFrom [] l && decide (l.length ≤ 10)
theorem in_loop (l : List S43) (hl : (l.length : Int) < 9223372036854775807) (x : S43) (done rest : List S43) (e : l = done ++ x :: rest) (R : Bool)
    (hR : (done.any fun p => eqN p x) = false → Ev (fun k => spec_l26Ok.l0 k l ((done ++ [x]).length : Int)) R) (hF : (done.any fun p => eqN p x) = true → R = false) :
    ∀ (ys pre : List S43), done = pre ++ ys → (pre.any fun p => eqN p x) = false → Ev (fun k => spec_l26Ok.l1 k l (done.length : Int) (pre.length : Int)) R
  | [], pre, e2, hp => by
    have e3 : done = pre := by rw [e2]; simp
    subst e3
    have hn : wrap64 ((done.length : Int) + 1) = (((done ++ [x]).length : Nat) : Int) := next_mid _ _ (by rw [e] at hl; simp at hl; omega)
    refine Ev.step (fun k => ?_) (hR hp)
    simp only [spec_l26Ok.l1]
    rw [if_neg (by omega), hn]
  | y :: ys, pre, e2, hp => by
    have hn : wrap64 ((pre.length : Int) + 1) = (((pre ++ [y]).length : Nat) : Int) := next_mid _ _ (by rw [e, e2] at hl; simp at hl; omega)
    have h1 : ((pre.length : Nat) : Int) < (done.length : Int) := by rw [e2]; exact len_mid _ _ _
    have h2 : ((done.length : Nat) : Int) < (l.length : Int) := by rw [e]; exact len_mid _ _ _
    have g1 : rd_T43 l (pre.length : Int) = y := by rw [e, e2, List.append_assoc, List.cons_append]; exact rdT43_mid _ _ _
    have g2 : rd_T43 l (done.length : Int) = x := by rw [e]; exact rdT43_mid _ _ _
    by_cases c : y.f0.toList = x.f0.toList
    · refine Ev.step (f := fun _ => some false) (fun k => ?_) (by rw [hF (by rw [e2]; simp [eqN, c])]; exact Ev.now _)
      simp only [spec_l26Ok.l1]
      rw [if_pos h1, if_pos (by omega), if_pos (by omega), if_pos (by omega), if_pos h2, g1, g2, if_pos c]
    · refine Ev.step (fun k => ?_) (in_loop l hl x done rest e R hR hF ys (pre ++ [y]) (by rw [e2]; simp) (by rw [List.any_append, hp]; simp [eqN, c]))
      simp only [spec_l26Ok.l1]
      rw [if_pos h1, if_pos (by omega), if_pos (by omega), if_pos (by omega), if_pos h2, g1, g2, if_neg c, hn]
theorem spec_ok_loop (l : List S43) (hl : (l.length : Int) < 9223372036854775807) (hb : ∀ x ∈ l, (x.f1.length : Int) < 9223372036854775807) :
    ∀ (ys pre : List S43), l = pre ++ ys → Ev (fun k => spec_l26Ok.l0 k l (pre.length : Int)) (okFrom pre ys && decide (l.length ≤ 10))
  | [], pre, e => by
    refine Ev.step (f := fun _ => some (decide (l.length ≤ 10))) (fun k => ?_) (Ev.now _)
    simp only [spec_l26Ok.l0]
    rw [if_neg (by rw [e]; exact len_end _)]
    congr 1
    simp
    omega
  | x :: ys, pre, e => by
    have hx := spec_one x (hb x (by rw [e]; simp))
    have h1 : ((pre.length : Nat) : Int) < (l.length : Int) := by rw [e]; exact len_mid _ _ _
    have g1 : rd_T43 l (pre.length : Int) = x := by rw [e]; exact rdT43_mid _ _ _
    have ih := spec_ok_loop l hl hb ys (pre ++ [x]) (by rw [e]; simp)
    refine Ev.step (f := fun k => (spec_l26One.f k [x]).bind fun t => if t = true then spec_l26Ok.l1 k l (pre.length : Int) 0 else some false) (fun k => ?_) (Ev.bind hx ?_)
    · simp only [spec_l26Ok.l0]
      rw [if_pos h1, if_pos (by omega), g1]
    · by_cases c : oneB x = true
      · simp only [c, if_true]
        refine in_loop l hl x pre ys e _ (fun h => ?_) (fun h => ?_) pre [] rfl rfl
        · rw [okFrom, c, h]
          exact ih
        · rw [okFrom, h]
          simp
      · simp only [Bool.eq_false_iff.2 c, okFrom]
        exact Ev.now _
theorem spec_ok (l : List S43) (hl : (l.length : Int) < 9223372036854775807) (hb : ∀ x ∈ l, (x.f1.length : Int) < 9223372036854775807) : Ev (fun k => spec_l26Ok.f k l) (okB l) := spec_ok_loop l hl hb l [] rfl
theorem idx_any (t : ByteArray) : ∀ (l : List S43) (i : Nat), (idxFrom t l i ≥ 0) ↔ (l.any fun x => x.f0.toList == t.toList) = true
  | [], i => by simp [idxFrom]
  | x :: xs, i => by
    by_cases c : (x.f0.toList == t.toList) = true
    · rw [idxFrom, if_pos c]
      simp only [List.any_cons, c, Bool.true_or, iff_true]
      omega
    · rw [idxFrom, if_neg c, idx_any t xs (i + 1)]
      simp only [List.any_cons, Bool.eq_false_iff.2 c, Bool.false_or]
theorem vh_ok (ok : S43 → Bool) : ∀ (ys pre : List S43), (∀ x ∈ ys, ok x = oneB x) → vhFrom ok pre ys = okFrom pre ys
  | [], _, _ => rfl
  | x :: ys, pre, h => by
    rw [vhFrom, okFrom, h x (by simp), vh_ok ok ys (pre ++ [x]) (fun y hy => h y (by simp [hy]))]
    by_cases c : oneB x = true
    · rw [c, if_pos rfl]
      by_cases d : (pre.any fun p => eqN p x) = true
      · rw [if_pos ((idx_any x.f0 pre 0).2 d), d]; rfl
      · rw [if_neg (fun h => d ((idx_any x.f0 pre 0).1 h)), Bool.eq_false_iff.2 d]; rfl
    · rw [Bool.eq_false_iff.2 c]; rfl
theorem impl_ok (l : List S43) (hb : ∀ x ∈ l, (x.f1.length : Int) < 9223372036854775807) : Ev (fun k => impl_ValidHands.f k l) (okB l) := by
  obtain ⟨K, h⟩ := ev_all l (p := fun k x => impl_validHand.f k x.f0 x.f1 x.f2 = some (oneB x)) (fun x hx => impl_one x (hb x hx))
  refine ⟨K, fun k hk => ?_⟩
  have h := h k hk
  dsimp only
  unfold impl_ValidHands.f
  rw [if_pos (by rw [List.all_eq_true]; intro x hx; rw [hand_ok, h x hx]; rfl)]
  unfold vHands okB
  rw [vh_ok _ l [] (fun x hx => by rw [hand_ok, h x hx]; rfl)]
  by_cases c : (l.length : Int) > 10
  · rw [if_pos c, decide_eq_false (by omega)]; simp
  · rw [if_neg c, decide_eq_true (by omega)]; simp

/-! ### sums and pay -/
def sumW (s : Int) : List Int → Int
  | [] => s
  | m :: ms => sumW (wrap64 (s + m)) ms
def extW (lim s : Int) : List Int → Int
  | [] => s
  | m :: ms => extW lim (wrap64 (s + mx 0 (wrap64 (m - lim)))) ms
theorem sum_loop (l : List Int) (hl : (l.length : Int) < 9223372036854775807) :
    ∀ (ys pre : List Int) (s : Int), l = pre ++ ys → Ev (fun k => spec_l00Sum.l0 k l s (pre.length : Int)) (sumW s ys)
  | [], pre, s, e => by
    refine Ev.step (f := fun _ => some s) (fun k => ?_) (Ev.now _)
    simp only [spec_l00Sum.l0]
    rw [if_neg (by rw [e]; exact len_end _)]
  | y :: ys, pre, s, e => by
    have hn : wrap64 ((pre.length : Int) + 1) = (((pre ++ [y]).length : Nat) : Int) := next_mid _ _ (by rw [e] at hl; simp at hl; omega)
    have hr : rd l (pre.length : Int) = y := by rw [e]; exact rd_mid _ _ _
    have hp : ((pre.length : Nat) : Int) < (l.length : Int) := by rw [e]; exact len_mid _ _ _
    refine Ev.step (fun k => ?_) (sum_loop l hl ys (pre ++ [y]) (wrap64 (s + y)) (by rw [e]; simp))
    simp only [spec_l00Sum.l0]
    rw [if_pos hp, if_pos (by omega), hr, hn]
theorem spec_sum (l : List Int) (hl : (l.length : Int) < 9223372036854775807) : Ev (fun k => spec_l00Sum.f k l) (sumW 0 l) := sum_loop l hl l [] 0 rfl
theorem max_mx (v : Int) : spec_l00Max.f 0 v = some (mx 0 v) := by
  unfold spec_l00Max.f mx
  by_cases c : 0 > v
  · rw [if_pos c, if_neg (by omega)]
  · rw [if_neg c]
    by_cases d : 0 < v
    · rw [if_pos d]
    · rw [if_neg d]; congr 1; omega
theorem ext_loop (x : S43) (lim : Int) (hl : (x.f1.length : Int) < 9223372036854775807) :
    ∀ (ys pre : List Int) (s : Int), x.f1 = pre ++ ys → Ev (fun k => spec_l26Extra.l0 k [x] lim s (pre.length : Int)) (extW lim s ys)
  | [], pre, s, e => by
    refine Ev.step (f := fun _ => some s) (fun k => ?_) (Ev.now _)
    have hp : ¬ ((pre.length : Nat) : Int) < (x.f1.length : Int) := by rw [e]; exact len_end _
    simp only [spec_l26Extra.l0, rdT43_one]
    rw [if_neg hp]
  | y :: ys, pre, s, e => by
    have hn : wrap64 ((pre.length : Int) + 1) = (((pre ++ [y]).length : Nat) : Int) := next_mid _ _ (by rw [e] at hl; simp at hl; omega)
    have hr : rd x.f1 (pre.length : Int) = y := by rw [e]; exact rd_mid _ _ _
    have hp : ((pre.length : Nat) : Int) < (x.f1.length : Int) := by rw [e]; exact len_mid _ _ _
    refine Ev.step (fun k => ?_) (ext_loop x lim hl ys (pre ++ [y]) (wrap64 (s + mx 0 (wrap64 (y - lim)))) (by rw [e]; simp))
    simp only [spec_l26Extra.l0, rdT43_one, max_mx]
    rw [if_pos hp, if_pos (by omega), hr, hn]
    rfl
theorem spec_ext (x : S43) (lim : Int) (hl : (x.f1.length : Int) < 9223372036854775807) : Ev (fun k => spec_l26Extra.f k [x] lim) (extW lim 0 x.f1) := ext_loop x lim hl x.f1 [] 0 rfl
theorem iext_loop (l : List Int) (lim : Int) (hl : (l.length : Int) < 9223372036854775807) :
    ∀ (ys pre : List Int) (s : Int), l = pre ++ ys → Ev (fun k => impl_extraMinutes.l0 k lim s l (l.length : Int) (pre.length : Int)) (extW lim s ys)
  | [], pre, s, e => by
    refine Ev.step (f := fun _ => some s) (fun k => ?_) (Ev.now _)
    simp only [impl_extraMinutes.l0]
    rw [if_neg (by rw [e]; exact len_end _)]
  | y :: ys, pre, s, e => by
    have hn : wrap64 ((pre.length : Int) + 1) = (((pre ++ [y]).length : Nat) : Int) := next_mid _ _ (by rw [e] at hl; simp at hl; omega)
    have hr : rd l (pre.length : Int) = y := by rw [e]; exact rd_mid _ _ _
    have hp : ((pre.length : Nat) : Int) < (l.length : Int) := by rw [e]; exact len_mid _ _ _
    refine Ev.step (fun k => ?_) (iext_loop l lim hl ys (pre ++ [y]) (wrap64 (s + mx 0 (wrap64 (y - lim)))) (by rw [e]; simp))
    simp only [impl_extraMinutes.l0]
    rw [if_pos hp, if_pos (by omega), if_pos hp, hr, hn]
theorem impl_ext (x : S43) (lim : Int) (hl : (x.f1.length : Int) < 9223372036854775807) : Ev (fun k => impl_extraMinutes.f k x.f0 x.f1 x.f2 lim) (extW lim 0 x.f1) := iext_loop x.f1 lim hl x.f1 [] 0 rfl
def payW (x : S43) : Int := wrap64 (Int.tdiv (wrap64 ((wrap64 ((wrap64 (x.f2 * sumW 0 x.f1)) * 100)) + (wrap64 ((wrap64 (x.f2 * extW 1440 0 x.f1)) * 0)))) 6000)
theorem ext_bound : ∀ (l : List Int) (lim s : Int), (∀ m ∈ l, 0 ≤ m ∧ m ≤ 1440) → 0 ≤ lim → lim ≤ 1440 → 0 ≤ s → s + l.length * 1440 ≤ 1000000 → 0 ≤ extW lim s l ∧ extW lim s l ≤ s + l.length * 1440
  | [], lim, s, _, _, _, h0, _ => by simp [extW]; exact h0
  | m :: ms, lim, s, h, hl0, hl1, h0, h1 => by
    have hm := h m (by simp)
    rw [List.length_cons] at h1
    have hx : 0 ≤ mx 0 (wrap64 (m - lim)) ∧ mx 0 (wrap64 (m - lim)) ≤ 1440 := by
      rw [w64 (by omega) (by omega)]; unfold mx; split <;> omega
    have := ext_bound ms lim (s + mx 0 (wrap64 (m - lim))) (fun q hq => h q (by simp [hq])) hl0 hl1 (by omega) (by omega)
    rw [extW, w64 (n := s + _) (by omega) (by omega), List.length_cons]
    omega
theorem sum_ext : ∀ (l : List Int) (s : Int), (∀ m ∈ l, 0 ≤ m ∧ m ≤ 1440) → extW 0 s l = sumW s l
  | [], s, _ => rfl
  | m :: ms, s, h => by
    have hm := h m (by simp)
    have hx : mx 0 (wrap64 (m - 0)) = m := by
      rw [w64 (by omega) (by omega)]; unfold mx; split <;> omega
    rw [extW, sumW, hx, sum_ext ms _ (fun q hq => h q (by simp [hq]))]
theorem one_facts {x : S43} (h : oneB x = true) : (∀ m ∈ x.f1, 0 ≤ m ∧ m ≤ 1440) ∧ x.f1.length ≤ 14 ∧ 0 ≤ x.f2 ∧ x.f2 ≤ 100000 := by
  simp only [oneB, inB, Bool.and_eq_true, List.all_eq_true, decide_eq_true_eq] at h
  exact ⟨h.1, h.2.2.1, h.2.2.2⟩
theorem pay_bound {x : S43} (h : oneB x = true) : 0 ≤ payW x ∧ payW x ≤ 100000000 := by
  obtain ⟨h1, h2, h3, h4⟩ := one_facts h
  have hs := ext_bound x.f1 0 0 h1 (by omega) (by omega) (by omega) (by omega)
  have he := ext_bound x.f1 1440 0 h1 (by omega) (by omega) (by omega) (by omega)
  rw [sum_ext _ _ h1] at hs
  have hq : 0 ≤ x.f2 * sumW 0 x.f1 ∧ x.f2 * sumW 0 x.f1 ≤ 100000 * 20160 := ⟨Int.mul_nonneg h3 hs.1, Int.mul_le_mul h4 (by omega) hs.1 (by omega)⟩
  have hr : 0 ≤ x.f2 * extW 1440 0 x.f1 ∧ x.f2 * extW 1440 0 x.f1 ≤ 100000 * 20160 := ⟨Int.mul_nonneg h3 he.1, Int.mul_le_mul h4 (by omega) he.1 (by omega)⟩
  have hd : payW x = (x.f2 * sumW 0 x.f1 * 100).tdiv 6000 := by
    unfold payW
    rw [w64 (n := x.f2 * sumW 0 x.f1) (by omega) (by omega), w64 (n := x.f2 * extW 1440 0 x.f1) (by omega) (by omega), w64 (n := x.f2 * sumW 0 x.f1 * 100) (by omega) (by omega)]
    rw [Int.mul_zero, w64 (n := 0) (by omega) (by omega), Int.add_zero, w64 (n := x.f2 * sumW 0 x.f1 * 100) (by omega) (by omega)]
    rw [Int.tdiv_eq_ediv_of_nonneg (by omega), w64 (by omega) (by omega)]
  rw [hd, Int.tdiv_eq_ediv_of_nonneg (by omega)]
  omega
theorem spec_pay (x : S43) (hl : (x.f1.length : Int) < 9223372036854775807) : Ev (fun k => spec_l26Pay.f k [x] 1440 0) (payW x) :=
  Ev.bind (spec_sum x.f1 hl) (Ev.bind (spec_ext x 1440 hl) (Ev.now _))
theorem impl_pay (x : S43) (hl : (x.f1.length : Int) < 9223372036854775807) (h1 : ∀ m ∈ x.f1, 0 ≤ m ∧ m ≤ 1440) : Ev (fun k => impl_payOf.f k x.f0 x.f1 x.f2 1440 0) (payW x) := by
  unfold payW
  rw [← sum_ext _ _ h1]
  exact Ev.bind (impl_ext x 0 hl) (Ev.bind (impl_ext x 1440 hl) (Ev.now _))
end Go.Proofs.Ytjmjmpbphhbmpaa.QCH
