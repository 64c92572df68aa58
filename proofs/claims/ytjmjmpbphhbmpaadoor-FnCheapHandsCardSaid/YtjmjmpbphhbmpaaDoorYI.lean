/- The plain law of FnCheapHands: it answers true. -/
import Derived.Test.YtjmjmpbphhbmpaaDoorYH
import Derived.Test.YtjmjmpbphhbmpaaDoorQCBx7
namespace Go.Proofs.YtjmjmpbphhbmpaaDoor.QCB
open Go.RowKit Go.Proofs.YtjmjmpbphhbmpaaDoorQ Go.Proofs.YtjmjmpbphhbmpaaDoorW.PrintWords Go.Proofs.YtjmjmpbphhbmpaaDoorW.PrintLast Go.Proofs.YtjmjmpbphhbmpaaDoorW.PrintMore Go.Proofs.YtjmjmpbphhbmpaaDoor.ZA

theorem l2_loop (x1 : List Int) (H : List S33) (h6 : H.length ≤ 10) (hg : ∀ x ∈ H, Gd x) (day most two great first : Int) (d : Nat) (hd : d < 14) (R : Bool) : ∀ (ys pre : List S33) (s : Int), H = pre ++ ys → 0 ≤ s → s + 690 * ys.length ≤ 100000 →
    Ev (fun k => if s + col d ys > great then laws_FnCheapHands.l1 k x1 H day most two (s + col d ys) (d : Int) ((d + 1 : Nat) : Int) else laws_FnCheapHands.l1 k x1 H day most two great first ((d + 1 : Nat) : Int)) R →
    Ev (fun k => laws_FnCheapHands.l2 k x1 H day most two great first (d : Int) s (pre.length : Int)) R := by
  have hw : wrap64 ((d : Int) + 1) = ((d + 1 : Nat) : Int) := by rw [w64 (by omega) (by omega)]; omega
  intro ys
  induction ys with
  | nil =>
    intro pre s e _ _ hR
    refine Ev.step (fun k => ?_) hR
    simp only [laws_FnCheapHands.l2]
    subst e
    have hc : col d [] = 0 := rfl
    rw [if_neg (len_end pre), hw, hc, Int.add_zero]
  | cons x xs ih =>
    intro pre s e h0 h1 hR
    have hx := hg x (by rw [e]; simp)
    have hq := gd_get hx d
    simp only [List.length_cons] at h1
    have hc : col d (x :: xs) = x.f1.getD d 0 + col d xs := rfl
    rw [hc, ← Int.add_assoc] at hR
    have hi := ih (pre ++ [x]) (s + x.f1.getD d 0) (by rw [← snoc]; exact e) (by omega) (by omega) hR
    have hp : (pre.length : Int) < 9223372036854775807 := by have := congrArg List.length e; simp at this; omega
    refine Ev.step (fun k => ?_) hi
    simp only [laws_FnCheapHands.l2]
    have hr : rd_T33 H (pre.length : Int) = x := by rw [e]; exact rdT33_at _ _ _
    rw [if_pos (by rw [e]; exact len_mid pre xs x), if_pos (by omega), hr, next_mid pre x hp]
    by_cases c : (d : Int) < (x.f1.length : Int)
    · rw [if_pos c, if_pos (by omega), show rd x.f1 (d : Int) = x.f1.getD d 0 from rfl, w64 (by omega) (by omega)]
    · rw [if_neg c]
      have : x.f1.getD d 0 = 0 := by rw [List.getD_eq_getElem?_getD, List.getElem?_eq_none (by omega)]; rfl
      rw [this, Int.add_zero]
theorem l1_end {x1 : List Int} (hb : Bytes x1) (H : List S33) (day most two great first : Int) (h0 : great = 0 → two = 3) (h1 : great ≠ 0 → great > 0 ∧ two = 0 ∧ day = first ∧ most = great) :
    Ev (fun k => laws_FnCheapHands.l1 k x1 H day most two great first 14) true := by
  obtain ⟨v, e1, b0, b1⟩ := at_ok hb 1 250 (by omega) (by omega)
  have hw : wrap64 (v * 80) = ((v * 80).toNat : Int) := by rw [w64 (by omega) (by omega)]; omega
  have e2 := clock_text (v * 80).toNat (by omega)
  have e3 := read_clock (v * 80).toNat (by omega)
  refine Ev.step (f := fun k => (impl_ReadClock.f k (ofL (clk (v * 80).toNat))).bind fun bt244 => (if bt244.2 = true then (if bt244.1 = (((v * 80).toNat : Nat) : Int) then (if great = 0 then (if two = 3 then (some true) else (if great > 0 then (if two = 0 then (if day = first then (some (most == great)) else (some false)) else (some false)) else (some false))) else (if great > 0 then (if two = 0 then (if day = first then (some (most == great)) else (some false)) else (some false)) else (some false))) else (some false)) else (some false))) (fun k => ?_) (Ev.bind e3 (Ev.congr (fun k => (if_pos rfl).trans (if_pos rfl)) ?_))
  · simp only [laws_FnCheapHands.l1]
    rw [if_neg (by omega), e1, Option.bind_some, hw, e2, Option.bind_some]
  · by_cases c : great = 0
    · exact Ev.congr (fun k => (if_pos c).trans (if_pos (h0 c))) (Ev.now _)
    · obtain ⟨c1, c2, c3, c4⟩ := h1 c
      exact Ev.congr (fun k => (if_neg c).trans ((if_pos c1).trans ((if_pos c2).trans ((if_pos c3).trans (by rw [c4, beq_self_eq_true]))))) (Ev.now _)
theorem l1_loop {x1 : List Int} (hb : Bytes x1) (H : List S33) (h6 : H.length ≤ 10) (hg : ∀ x ∈ H, Gd x) (day most two : Int) (hr : bdRes (days H) = (day, most, two)) : ∀ (n d b : Nat), d + n = 14 → b < 14 → bdBest (days H) n d b = bdBest (days H) 14 0 0 →
    Ev (fun k => laws_FnCheapHands.l1 k x1 H day most two (bdg (days H) b) (b : Int) (d : Int)) true := by
  have hS := days_ok h6 hg
  intro n
  induction n with
  | zero =>
    intro d b hd hb' he
    obtain rfl : d = 14 := by omega
    rw [bdBest] at he
    unfold bdRes at hr
    rw [← he] at hr
    have hp := (col_bd b H hg).1
    rw [← hS] at hp
    refine l1_end hb H day most two _ _ (fun c => ?_) (fun c => ?_)
    · rw [if_pos c] at hr
      simp only [Prod.mk.injEq] at hr
      exact hr.2.2.symm
    · rw [if_neg c] at hr
      simp only [Prod.mk.injEq] at hr
      exact ⟨by omega, hr.2.2.symm, hr.1.symm, hr.2.1.symm⟩
  | succ n ih =>
    intro d b hd hb' he
    rw [bdBest] at he
    have hcd := col_bd d H hg
    refine Ev.step (f := fun k => laws_FnCheapHands.l2 k x1 H day most two (bdg (days H) b) (b : Int) (d : Int) 0 0) (fun k => by simp only [laws_FnCheapHands.l1]; rw [if_pos (by omega)]) ?_
    refine l2_loop x1 H h6 hg day most two _ _ d (by omega) true H [] 0 rfl (by omega) (by omega) ?_
    rw [Int.zero_add, ← hS d]
    by_cases c : bdg (days H) d > bdg (days H) b
    · rw [if_pos c] at he
      exact Ev.congr (fun k => if_pos c) (ih (d + 1) d (by omega) (by omega) he)
    · rw [if_neg c] at he
      exact Ev.congr (fun k => if_neg c) (ih (d + 1) b (by omega) hb' he)
theorem l1_all {x1 : List Int} (hb : Bytes x1) (H : List S33) (h6 : H.length ≤ 10) (hg : ∀ x ∈ H, Gd x) (day most two : Int) (hr : bdRes (days H) = (day, most, two)) :
    Ev (fun k => laws_FnCheapHands.l1 k x1 H day most two 0 0 0) true := by
  have hS := days_ok h6 hg
  have hcd := col_bd 0 H hg
  have hb13 : bdBest (days H) 14 0 0 = bdBest (days H) 13 1 0 := by rw [bdBest, ite_self]
  have hn := l1_loop hb H h6 hg day most two hr 13 1 0 (by omega) (by omega) hb13.symm
  refine Ev.step (f := fun k => laws_FnCheapHands.l2 k x1 H day most two 0 0 ((0 : Nat) : Int) 0 0) (fun k => by simp only [laws_FnCheapHands.l1]; rw [if_pos (by omega)]; rfl) ?_
  refine l2_loop x1 H h6 hg day most two _ _ 0 (by omega) true H [] 0 rfl (by omega) (by omega) ?_
  rw [Int.zero_add, ← hS 0]
  rw [← hS 0] at hcd
  by_cases c : bdg (days H) 0 > 0
  · exact Ev.congr (fun k => if_pos c) hn
  · refine Ev.congr (fun k => if_neg c) ?_
    rw [show bdg (days H) 0 = 0 by omega] at hn
    exact hn
theorem j2_ok {x1 : List Int} (hb : Bytes x1) (H : List S33) (h6 : H.length ≤ 10) (hg : ∀ x ∈ H, Gd x) (hv : okB H = true) : Ev (fun k => laws_FnCheapHands.j2 k x1 H) true := by
  refine Ev.step (f := fun k => (impl_BusiestDay.f k H).bind fun bt236 => (laws_FnCheapHands.l1 k x1 H bt236.1 bt236.2.1 bt236.2.2 0 0 0)) (fun k => by simp only [laws_FnCheapHands.j2]) (Ev.bind (busy_ok hg hv) ?_)
  exact l1_all hb H h6 hg _ _ _ rfl
theorem l0_loop (x1 : List Int) (H : List S33) (h6 : H.length ≤ 10) (hg : ∀ x ∈ H, Gd x) (need : Int) (best : List Int) (pay one : Int) (drawn : List Int) (R : Bool) : ∀ (ys pre : List S33) (s : Int), H = pre ++ ys → 0 ≤ s → s + 9000 * ys.length ≤ 100000 →
    Ev (fun k => if ((one == 0) != (decide (s + all mnW ys ≥ need))) = true then some false else (if one = 0 then (laws_FnCheapHands.j1 k x1 H need best pay one drawn false) else (laws_FnCheapHands.j1 k x1 H need best pay one drawn (one != 3)))) R →
    Ev (fun k => laws_FnCheapHands.l0 k x1 H need best pay one drawn s (pre.length : Int)) R := by
  intro ys
  induction ys with
  | nil =>
    intro pre s e _ _ hR
    refine Ev.step (fun k => ?_) hR
    simp only [laws_FnCheapHands.l0]
    subst e
    have hc : all mnW [] = 0 := rfl
    rw [if_neg (len_end pre), hc, Int.add_zero]
  | cons x xs ih =>
    intro pre s e h0 h1 hR
    have hx := hg x (by rw [e]; simp)
    have hq := gd_mn hx
    simp only [List.length_cons] at h1
    have hc : all mnW (x :: xs) = mnW x + all mnW xs := rfl
    rw [hc, ← Int.add_assoc] at hR
    have hi := ih (pre ++ [x]) (s + mnW x) (by rw [← snoc]; exact e) (by omega) (by omega) hR
    have hp : (pre.length : Int) < 9223372036854775807 := by have := congrArg List.length e; simp at this; omega
    refine Ev.step (f := fun k => (laws_a2Sum.f k x.f1).bind fun t230 => (laws_FnCheapHands.l0 k x1 H need best pay one drawn (wrap64 (s + t230)) (((pre ++ [x]).length : Nat) : Int))) (fun k => ?_) (Ev.bind (sum2 x.f1 (by have := hx.len; omega)) (Ev.congr (fun k => ?_) hi))
    · simp only [laws_FnCheapHands.l0]
      have hr : rd_T33 H (pre.length : Int) = x := by rw [e]; exact rdT33_at _ _ _
      rw [if_pos (by rw [e]; exact len_mid pre xs x), if_pos (by omega), hr, next_mid pre x hp]
    · show laws_FnCheapHands.l0 k x1 H need best pay one drawn (wrap64 (s + mnW x)) _ = _
      rw [w64 (by omega) (by omega)]
theorem law (l0 l1 : List Int) (h0 : ∀ x ∈ l0, 0 ≤ x ∧ x ≤ 255) (h1 : ∀ x ∈ l1, 0 ≤ x ∧ x ≤ 255) : ∃ k, laws_FnCheapHands.f k l0 l1 = some true := by
  by_cases c0 : (l0.length : Int) > 3000
  · refine ⟨0, ?_⟩
    unfold laws_FnCheapHands.f laws_a2Long.f
    rw [if_pos c0, Option.bind_some, if_pos rfl]
  by_cases c1 : (l1.length : Int) > 3000
  · refine ⟨0, ?_⟩
    unfold laws_FnCheapHands.f laws_a2Long.f
    rw [if_neg c0, Option.bind_some, if_pos (decide_eq_true c1)]
  have hb0 : Bytes l0 := ⟨by omega, h0⟩
  have hb1 : Bytes l1 := ⟨by omega, h1⟩
  obtain ⟨H, eH, h6, hg, hn⟩ := hands_drawn hb0
  obtain ⟨_, hv⟩ := hands_valid h6 hg hn
  obtain ⟨v, ev, v0, v1⟩ := at_ok hb1 0 100 (by omega) (by omega)
  obtain ⟨td, wd, pd, eD, hD⟩ := some_ok hb1 H (by omega)
  have hbd := gd_bd hg
  have hw : wrap64 (30 * v) = 30 * v := w64 (by omega) (by omega)
  have eC := cheap_ok (by omega) hg hv (30 * v) (by omega) (by omega)
  have hj2 := j2_ok hb1 H (by omega) hg hv
  refine Ev.rounds (g := fun k => laws_FnCheapHands.f k l0 l1) (Ev.congr (f := fun k => (spec_A2Hands.f k l0).bind fun t217 => ((impl_CheapestHands.f k t217 (30 * v)).bind fun bt221 => ((spec_A2Some.f k l1 (t217.length : Int)).bind fun t226 => (laws_FnCheapHands.l0 k l1 t217 (30 * v) bt221.1 bt221.2.1 bt221.2.2 t226 0 0)))) (fun k => ?_) (Ev.bind eH (Ev.bind eC (Ev.bind eD ?_))))
  · unfold laws_FnCheapHands.f laws_a2Long.f
    rw [if_neg c0, Option.bind_some, if_neg (by rw [decide_eq_true_eq]; exact c1), ev]
    simp only [Option.bind_some, hw]
  · refine l0_loop l1 H (by omega) hg (30 * v) _ _ _ td true H [] 0 rfl (by omega) (by omega) ?_
    rw [Int.zero_add]
    rcases res_ok mnW payW (30 * v) H hbd (by omega) with ⟨e, hA⟩ | ⟨t, w, p, e, hS, hw', hL⟩
    · rw [e]
      dsimp only
      obtain ⟨tf, pf, hf⟩ := sb_full mnW payW H 0
      have hlt := hA _ _ _ hf
      refine Ev.congr (fun k => (if_neg (by rw [decide_eq_false (by omega)]; decide)).trans (if_neg (by decide))) ?_
      refine Ev.step (fun k => ?_) hj2
      simp only [laws_FnCheapHands.j1]
      rw [if_neg (by decide), if_neg (by decide)]
    · rw [e]
      dsimp only
      have hle := sb_le hS hbd
      refine Ev.congr (fun k => (if_neg (by rw [decide_eq_true (by omega)]; decide)).trans (if_pos rfl)) ?_
      refine Ev.step (f := fun k => (laws_a2Rises.f k t (H.length : Int)).bind fun t231 => (if t231 = true then ((laws_a2Cost.f k H t).bind fun bt232 => ((laws_a2Cost.f k H td).bind fun bt234 => (if bt232.1 < 30 * v then (some false) else (if bt232.2 = p then (if bt234.1 ≥ 30 * v then (if bt234.2 < p then (some false) else (laws_FnCheapHands.j2 k l1 H)) else (laws_FnCheapHands.j2 k l1 H)) else (some false))))) else (some false))) (fun k => ?_) (Ev.bind (rise_ok (by omega) hS) (Ev.congr (fun k => if_pos rfl) (Ev.bind (cost_ok H (by omega) hg hS) (Ev.bind (cost_ok H (by omega) hg hD) (Ev.congr (fun k => (if_neg (by omega)).trans (if_pos rfl)) ?_)))))
      · simp only [laws_FnCheapHands.j1]
        rw [if_neg (by decide), if_pos trivial]
      · by_cases c : wd ≥ 30 * v
        · have := hL _ _ _ hD c
          exact Ev.congr (fun k => (if_pos c).trans (if_neg (by omega))) hj2
        · exact Ev.congr (fun k => if_neg c) hj2
end Go.Proofs.YtjmjmpbphhbmpaaDoor.QCB
