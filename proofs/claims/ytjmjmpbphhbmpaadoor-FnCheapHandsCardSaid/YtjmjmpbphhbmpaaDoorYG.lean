/- The plain law of FnCheapHands: sums, costs and drawn sets. -/
import Derived.Test.YtjmjmpbphhbmpaaDoorYE
import Derived.Test.YtjmjmpbphhbmpaaDoorYF
namespace Go.Proofs.YtjmjmpbphhbmpaaDoor.QCB
open Go.RowKit Go.Proofs.YtjmjmpbphhbmpaaDoorQ Go.Proofs.YtjmjmpbphhbmpaaDoorW.PrintWords Go.Proofs.YtjmjmpbphhbmpaaDoorW.PrintLast Go.Proofs.YtjmjmpbphhbmpaaDoorW.PrintMore Go.Proofs.YtjmjmpbphhbmpaaDoor.ZA
set_option linter.unusedVariables false
set_option linter.unusedSimpArgs false

def mnW (x : S33) : Int := sumW 0 x.f1
theorem gd_one {x : S33} (h : Gd x) : ∀ m ∈ x.f1, 0 ≤ m ∧ m ≤ 1440 := fun m hm => by have := h.mins m hm; omega
theorem gd_mn {x : S33} (h : Gd x) : 0 ≤ mnW x ∧ mnW x ≤ 8640 := by
  have hs := ext_bound x.f1 0 0 (gd_one h) (by omega) (by omega) (by omega) (by have := h.len; omega)
  rw [sum_ext _ _ (gd_one h)] at hs
  have := h.len
  unfold mnW
  omega
theorem gd_pa {x : S33} (h : Gd x) : payW x = x.f2 * mnW x / 60 ∧ 0 ≤ payW x ∧ payW x ≤ 1000000 ∧ 0 ≤ x.f2 * mnW x ∧ x.f2 * mnW x ≤ 40000000 := by
  have hs := gd_mn h
  have hw := h.wage
  have he := ext_bound x.f1 1440 0 (gd_one h) (by omega) (by omega) (by omega) (by have := h.len; omega)
  have hq : 0 ≤ x.f2 * mnW x ∧ x.f2 * mnW x ≤ 3900 * 8640 := ⟨Int.mul_nonneg hw.1 hs.1, Int.mul_le_mul hw.2 hs.2 hs.1 (by omega)⟩
  have hr : 0 ≤ x.f2 * extW 1440 0 x.f1 ∧ x.f2 * extW 1440 0 x.f1 ≤ 3900 * 20160 := ⟨Int.mul_nonneg hw.1 he.1, Int.mul_le_mul hw.2 (by have := h.len; omega) he.1 (by omega)⟩
  have hd : payW x = (x.f2 * mnW x * 100).tdiv 6000 := by
    unfold payW
    show wrap64 (Int.tdiv (wrap64 ((wrap64 ((wrap64 (x.f2 * mnW x)) * 100)) + (wrap64 ((wrap64 (x.f2 * extW 1440 0 x.f1)) * 0)))) 6000) = _
    rw [w64 (n := x.f2 * mnW x) (by omega) (by omega), w64 (n := x.f2 * extW 1440 0 x.f1) (by omega) (by omega), w64 (n := x.f2 * mnW x * 100) (by omega) (by omega)]
    rw [Int.mul_zero, w64 (n := 0) (by omega) (by omega), Int.add_zero, w64 (n := x.f2 * mnW x * 100) (by omega) (by omega)]
    rw [Int.tdiv_eq_ediv_of_nonneg (by omega), w64 (by omega) (by omega)]
  rw [hd, Int.tdiv_eq_ediv_of_nonneg (by omega)]
  omega
theorem gd_bd {H : List S33} (h : ∀ x ∈ H, Gd x) : Bd mnW payW H := fun x hx => by
  have a := gd_mn (h x hx)
  have b := gd_pa (h x hx)
  omega
theorem sum2_loop (l : List Int) (hl : l.length ≤ 1000) : ∀ (ys pre : List Int) (s : Int), l = pre ++ ys → Ev (fun k => laws_a2Sum.l0 k l s (pre.length : Int)) (sumW s ys) := by
  intro ys
  induction ys with
  | nil =>
    intro pre s e
    refine Ev.step (f := fun _ => some s) (fun k => ?_) (Ev.now _)
    simp only [laws_a2Sum.l0]
    subst e
    rw [if_neg (len_end pre)]
  | cons y ys ih =>
    intro pre s e
    refine Ev.step (fun k => ?_) (ih (pre ++ [y]) (wrap64 (s + y)) (by rw [← snoc]; exact e))
    simp only [laws_a2Sum.l0]
    have hp : (pre.length : Int) < 9223372036854775807 := by have := congrArg List.length e; simp at this; omega
    subst e
    rw [if_pos (len_mid pre ys y), if_pos (by omega), rd_mid, next_mid pre y hp]
theorem sum2 (l : List Int) (hl : l.length ≤ 1000) : Ev (fun k => laws_a2Sum.f k l) (sumW 0 l) := sum2_loop l hl l [] 0 rfl
theorem cost_loop (H : List S33) (h6 : H.length ≤ 10) (hg : ∀ x ∈ H, Gd x) (t : List Int) (ht : t.length ≤ 10) : ∀ (ys pre : List Int) (w p : Int), t = pre ++ ys → (∀ c ∈ ys, 0 ≤ c ∧ c < H.length) → 0 ≤ w → 0 ≤ p → w + 9000 * ys.length ≤ 100000 → p + 1000000 * ys.length ≤ 20000000 →
    Ev (fun k => laws_a2Cost.l0 k H t w p (pre.length : Int)) (w + sumT mnW H ys, p + sumT payW H ys) := by
  intro ys
  induction ys with
  | nil =>
    intro pre w p e _ _ _ _ _
    refine ev_same (b := (w + sumT mnW H [], p + sumT payW H [])) (Ev.step (f := fun _ => some (w, p)) (fun k => ?_) (Ev.now _)) (by simp [sumT])
    simp only [laws_a2Cost.l0]
    subst e
    rw [if_neg (len_end pre)]
  | cons y ys ih =>
    intro pre w p e hc h0 h1 h2 h3
    obtain ⟨c0, c1⟩ := hc y List.mem_cons_self
    have hm : rd_T33 H y ∈ H := by
      unfold rd_T33
      rw [List.getD_eq_getElem?_getD, List.getElem?_eq_getElem (show y.toNat < H.length by omega)]
      exact List.getElem_mem _
    have hx := hg _ hm
    have hs := sum2 (rd_T33 H y).f1 (by have := hx.len; omega)
    have g1 := gd_mn hx
    obtain ⟨g2, g3, g4, g5, g6⟩ := gd_pa hx
    simp only [List.length_cons] at h2 h3
    have hi := ih (pre ++ [y]) (w + mnW (rd_T33 H y)) (p + payW (rd_T33 H y)) (by rw [← snoc]; exact e) (fun c hc' => hc c (List.mem_cons_of_mem _ hc')) (by omega) (by omega) (by omega) (by omega)
    have hp : (pre.length : Int) < 9223372036854775807 := by have := congrArg List.length e; simp at this; omega
    refine Ev.step (f := fun k => (laws_a2Sum.f k ((rd_T33 H y).f1)).bind fun t197 => ((laws_a2Sum.f k ((rd_T33 H y).f1)).bind fun t198 => (laws_a2Cost.l0 k H t (wrap64 (w + t197)) (wrap64 (p + (wrap64 (Int.tdiv (wrap64 (((rd_T33 H y).f2) * t198)) 60)))) (((pre ++ [y]).length : Nat) : Int)))) (fun k => ?_) (Ev.bind hs (Ev.bind hs (ev_same (Ev.congr (fun k => ?_) hi) ?_)))
    · simp only [laws_a2Cost.l0]
      subst e
      rw [if_pos (len_mid pre ys y), if_pos (by omega), rd_mid, if_pos c0, if_pos c1, next_mid pre y hp]
    · show laws_a2Cost.l0 k H t (wrap64 (w + mnW (rd_T33 H y))) (wrap64 (p + wrap64 (Int.tdiv (wrap64 ((rd_T33 H y).f2 * mnW (rd_T33 H y))) 60))) _ = _
      rw [w64 (n := w + mnW (rd_T33 H y)) (by omega) (by omega), w64 (n := (rd_T33 H y).f2 * mnW (rd_T33 H y)) (by omega) (by omega), Int.tdiv_eq_ediv_of_nonneg (by omega), ← g2, w64 (n := payW (rd_T33 H y)) (by omega) (by omega), w64 (by omega) (by omega)]
    · rw [sumT, sumT, Int.add_assoc, Int.add_assoc]
theorem cost_ok (H : List S33) (h6 : H.length ≤ 10) (hg : ∀ x ∈ H, Gd x) {t : List Int} {w p : Int} (h : Sb mnW payW H 0 t w p) : Ev (fun k => laws_a2Cost.f k H t) (w, p) := by
  obtain ⟨h1, h2, h3, h4⟩ := sb_sums h [] rfl
  have := cost_loop H h6 hg t (by omega) t [] 0 0 rfl (fun c hc => by have := h3 c hc; omega) (by omega) (by omega) (by omega) (by omega)
  rw [List.nil_append] at h1 h2
  rw [← h1, ← h2, Int.zero_add, Int.zero_add] at this
  exact this
theorem rise_loop (t : List Int) (n : Int) (ht : t.length ≤ 1000) : ∀ (ys pre : List Int), t = pre ++ ys → (∀ c ∈ ys, 0 ≤ c ∧ c < n) → (pre = [] ∨ ∃ q b, pre = q ++ [b] ∧ rises (b :: ys)) → rises ys →
    Ev (fun k => laws_a2Rises.l0 k t n (pre.length : Int)) true := by
  intro ys
  induction ys with
  | nil =>
    intro pre e _ _ _
    refine Ev.step (f := fun _ => some true) (fun k => ?_) (Ev.now _)
    simp only [laws_a2Rises.l0]
    subst e
    rw [if_neg (len_end pre)]
  | cons y ys ih =>
    intro pre e hc hp hr
    obtain ⟨c0, c1⟩ := hc y List.mem_cons_self
    have hr' : rises ys := by
      cases ys with
      | nil => trivial
      | cons z zs => exact hr.2
    have hi := ih (pre ++ [y]) (by rw [← snoc]; exact e) (fun c hc' => hc c (List.mem_cons_of_mem _ hc')) (.inr ⟨pre, y, rfl, hr⟩) hr'
    have hp' : (pre.length : Int) < 9223372036854775807 := by have := congrArg List.length e; simp at this; omega
    refine Ev.step (fun k => ?_) hi
    simp only [laws_a2Rises.l0]
    rcases hp with rfl | ⟨q, b, rfl, hb⟩
    · subst e
      rw [if_pos (len_mid [] ys y), if_pos (by simp), rd_mid, if_neg (by omega), if_neg (by omega), if_neg (by simp), next_mid [] y hp']
    · have hbl : b < y := hb.1
      have hq : ((q ++ [b]).length : Int) = (q.length : Int) + 1 := by simp
      have hw : wrap64 (((q ++ [b]).length : Int) - 1) = (q.length : Int) := by
        rw [hq, w64 (by omega) (by omega)]; omega
      have hrd : rd (q ++ [b] ++ y :: ys) (q.length : Int) = b := by
        rw [show q ++ [b] ++ y :: ys = q ++ b :: (y :: ys) by simp]; exact rd_mid _ _ _
      subst e
      rw [if_pos (len_mid (q ++ [b]) ys y), if_pos (by omega), rd_mid, if_neg (by omega), if_neg (by omega), if_pos (by omega), hw, if_pos (by omega), if_pos (by simp; omega), hrd, if_neg (by omega), next_mid (q ++ [b]) y hp']
theorem rise_ok {H : List S33} (h6 : H.length ≤ 10) {t : List Int} {w p : Int} (h : Sb mnW payW H 0 t w p) : Ev (fun k => laws_a2Rises.f k t (H.length : Int)) true := by
  obtain ⟨h1, h2, h3, h4⟩ := sb_sums h [] rfl
  exact rise_loop t _ (by omega) t [] rfl (fun c hc => by have := h3 c hc; omega) (.inl rfl) (sb_rises h)
theorem some_loop {l : List Int} (hb : Bytes l) (n : Int) : ∀ (xs : List S33) (i : Nat) (out : List Int) (a sd : Int), (i : Int) + xs.length = n → 0 ≤ a → a + 2 * xs.length ≤ 500000000 → out.length + xs.length ≤ 100 → i + xs.length ≤ 1000 → xs.length ≤ 1000 →
    ∃ t w p, Ev (fun k => spec_A2Some.l0 k n out (i : Int) l a sd) (out ++ t) ∧ Sb mnW payW xs (i : Int) t w p := by
  intro xs
  induction xs with
  | nil =>
    intro i out a sd e h0 h1 h2 h3 h4
    refine ⟨[], 0, 0, Ev.step (f := fun _ => some (out ++ [])) (fun k => ?_) (Ev.now _), .nil _⟩
    simp only [spec_A2Some.l0]
    simp only [List.length_nil] at e
    rw [if_neg (by omega), List.append_nil]
  | cons x xs ih =>
    intro i out a sd e h0 h1 h2 h3 h4
    simp only [List.length_cons] at e h1 h2 h3 h4
    obtain ⟨b, a1, sd1, e1, g1, q1⟩ := one_ok hb a sd 2 h0 (by omega)
    have hw : wrap64 ((i : Int) + 1) = ((i + 1 : Nat) : Int) := by rw [w64 (by omega) (by omega)]; omega
    cases b with
    | true =>
      obtain ⟨t, w, p, he, hs⟩ := ih (i + 1) (out ++ [(i : Int)]) a1 sd1 (by omega) (by omega) (by omega) (by simp; omega) (by omega) (by omega)
      refine ⟨(i : Int) :: t, _, _, ev_same (Ev.step (fun k => ?_) he) (by simp), .take (by rw [show ((i : Int) + 1) = ((i + 1 : Nat) : Int) by omega]; exact hs)⟩
      simp only [spec_A2Some.l0]
      rw [if_pos (by omega), e1, Option.bind_some, if_pos rfl, if_pos (by omega), hw]
    | false =>
      obtain ⟨t, w, p, he, hs⟩ := ih (i + 1) out a1 sd1 (by omega) (by omega) (by omega) (by omega) (by omega) (by omega)
      refine ⟨t, _, _, Ev.step (fun k => ?_) he, .skip (by rw [show ((i : Int) + 1) = ((i + 1 : Nat) : Int) by omega]; exact hs)⟩
      simp only [spec_A2Some.l0]
      rw [if_pos (by omega), e1, Option.bind_some, if_neg (show ¬ (false = true) by decide), hw]
theorem some_ok {l : List Int} (hb : Bytes l) (H : List S33) (h6 : H.length ≤ 10) : ∃ t w p, Ev (fun k => spec_A2Some.f k l (H.length : Int)) t ∧ Sb mnW payW H 0 t w p := by
  obtain ⟨t, w, p, he, hs⟩ := some_loop hb (H.length : Int) H 0 [] 0 0 (by omega) (by omega) (by omega) (by simp; omega) (by omega) (by omega)
  exact ⟨t, w, p, he, hs⟩
end Go.Proofs.YtjmjmpbphhbmpaaDoor.QCB
