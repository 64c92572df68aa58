/- The plain law of FnCheapHands: the busiest day, and what the search answers. -/
import Derived.Test.YtjmjmpbphhbmpaaDoorYG
import Derived.Test.YtjmjmpbphhbmpaaDoorYD
namespace Go.Proofs.YtjmjmpbphhbmpaaDoor.QCB
open Go.RowKit Go.Proofs.YtjmjmpbphhbmpaaDoorQ Go.Proofs.YtjmjmpbphhbmpaaDoorW.PrintWords Go.Proofs.YtjmjmpbphhbmpaaDoorW.PrintLast Go.Proofs.YtjmjmpbphhbmpaaDoorW.PrintMore Go.Proofs.YtjmjmpbphhbmpaaDoor.ZA

theorem bdg_set (S : List Int) (j d : Nat) (v : Int) (hj : j < S.length) : bdg (S.set j v) d = if d = j then v else bdg S d := by
  unfold bdg
  rw [List.getD_eq_getElem?_getD, List.getD_eq_getElem?_getD, List.getElem?_set]
  by_cases c : j = d
  · subst c; simp [hj]
  · rw [if_neg c, if_neg (fun q => c q.symm)]
theorem add_ok : ∀ (ms : List Int) (S : List Int) (j : Nat), S.length = 14 → j + ms.length ≤ 14 → (∀ m ∈ ms, 0 ≤ m ∧ m ≤ 690) → (∀ d, 0 ≤ bdg S d ∧ bdg S d + 690 * ms.length ≤ 1000000) →
    (bdAdd S ms j).length = 14 ∧ ∀ d, bdg (bdAdd S ms j) d = bdg S d + (if j ≤ d then ms.getD (d - j) 0 else 0) := by
  intro ms
  induction ms with
  | nil => intro S j h _ _ _; exact ⟨h, fun d => by simp [bdAdd]⟩
  | cons m ms ih =>
    intro S j h0 h1 h2 h3
    have hm := h2 m List.mem_cons_self
    have hj := h3 j
    simp only [List.length_cons] at h1 h3 hj
    have hw : wrap64 (bdg S j + m) = bdg S j + m := w64 (by omega) (by omega)
    have hs := fun d => bdg_set S j d (bdg S j + m) (by omega)
    rw [bdAdd, hw]
    obtain ⟨a, b⟩ := ih (S.set j (bdg S j + m)) (j + 1) (by rw [List.length_set]; exact h0) (by omega) (fun x hx => h2 x (List.mem_cons_of_mem _ hx)) (fun d => by
      rw [hs d]
      have := h3 d
      split
      · rename_i e; omega
      · omega)
    refine ⟨a, fun d => ?_⟩
    rw [b d, hs d]
    by_cases c : d = j
    · subst c
      rw [if_pos rfl, if_neg (by omega), if_pos (Nat.le_refl _), Nat.sub_self]
      simp
    · rw [if_neg c]
      by_cases c2 : j ≤ d
      · rw [if_pos (by omega), if_pos c2, show d - j = (d - (j + 1)) + 1 by omega]
        simp
      · rw [if_neg (by omega), if_neg c2]
def col (d : Nat) (H : List S33) : Int := all (fun x => x.f1.getD d 0) H
theorem gd_get {x : S33} (h : Gd x) (d : Nat) : 0 ≤ x.f1.getD d 0 ∧ x.f1.getD d 0 ≤ 690 := by
  rw [List.getD_eq_getElem?_getD]
  cases c : x.f1[d]? with
  | none => simp
  | some m => exact h.mins m (List.mem_of_getElem? c)
theorem col_bd (d : Nat) : ∀ (H : List S33), (∀ x ∈ H, Gd x) → 0 ≤ col d H ∧ col d H ≤ 690 * H.length
  | [], _ => by simp [col, all]
  | x :: xs, h => by
    have a := gd_get (h x List.mem_cons_self) d
    have b := col_bd d xs (fun y hy => h y (List.mem_cons_of_mem _ hy))
    have e : col d (x :: xs) = x.f1.getD d 0 + col d xs := rfl
    rw [e, List.length_cons]
    omega
theorem alls_ok : ∀ (H : List S33) (S : List Int), (∀ x ∈ H, Gd x) → S.length = 14 → (∀ d, 0 ≤ bdg S d ∧ bdg S d + 5000 * H.length ≤ 900000) → (bdAll H S).length = 14 ∧ ∀ d, bdg (bdAll H S) d = bdg S d + col d H := by
  intro H
  induction H with
  | nil => intro S _ h _; exact ⟨h, fun d => by simp [bdAll, col, all]⟩
  | cons x xs ih =>
    intro S h0 h1 h2
    have hx := h0 x List.mem_cons_self
    simp only [List.length_cons] at h2
    obtain ⟨a, b⟩ := add_ok x.f1 S 0 h1 (by have := hx.len; omega) hx.mins (fun d => by have := h2 d; have := hx.len; omega)
    obtain ⟨a', b'⟩ := ih (bdAdd S x.f1 0) (fun y hy => h0 y (List.mem_cons_of_mem _ hy)) a (fun d => by
      rw [b d, if_pos (Nat.zero_le _), Nat.sub_zero]
      have := h2 d
      have := gd_get hx d
      omega)
    refine ⟨a', fun d => ?_⟩
    rw [bdAll, b' d, b d, if_pos (Nat.zero_le _), Nat.sub_zero]
    have e : col d (x :: xs) = x.f1.getD d 0 + col d xs := rfl
    rw [e]
    omega
abbrev days (H : List S33) : List Int := bdAll H (List.replicate 14 0)
theorem bdg_zero (d : Nat) : bdg (List.replicate 14 0) d = 0 := by
  unfold bdg
  rw [List.getD_eq_getElem?_getD, List.getElem?_replicate]
  split <;> rfl
theorem days_ok {H : List S33} (h6 : H.length ≤ 10) (h : ∀ x ∈ H, Gd x) (d : Nat) : bdg (days H) d = col d H := by
  obtain ⟨_, b⟩ := alls_ok H (List.replicate 14 0) h (by simp) (fun d => by rw [bdg_zero]; omega)
  rw [days, b d, bdg_zero]
  omega
theorem busy_ok {H : List S33} (h : ∀ x ∈ H, Gd x) (hv : okB H = true) : Ev (fun k => impl_BusiestDay.f k H) (bdRes (days H)) := by
  have e := impl_ok H (fun x hx => by have := (h x hx).len; omega)
  rw [hv] at e
  refine Ev.congr (f := fun k => (impl_ValidHands.f k H).bind fun v => if v = true then (if (H.all fun x => decide (x.f1.length ≤ 14)) = true then some (bdRes (bdAll H (List.replicate 14 0))) else none) else some (0, 0, 1)) (fun k => rfl) (Ev.bind e ?_)
  refine Ev.congr (fun k => (if_pos rfl).trans (if_pos ?_)) (Ev.now _)
  rw [List.all_eq_true]
  intro x hx
  exact decide_eq_true (by have := (h x hx).len; omega)
theorem all_congr {mn pa mn' pa' : S33 → Int} (need : Int) : ∀ (l : List S33) (i : Int) (set : List Int) (wk py : Int) (st : List Int × Int), (∀ x ∈ l, mn x = mn' x) → (∀ x ∈ l, pa x = pa' x) → chAll mn pa need l i set wk py st = chAll mn' pa' need l i set wk py st
  | [], _, _, _, _, _, _, _ => rfl
  | x :: xs, i, set, wk, py, st, h, g => by
    have ih := fun i set wk py st => all_congr need xs i set wk py st (fun q hq => h q (by simp [hq])) (fun q hq => g q (by simp [hq]))
    rw [chAll, chAll, h x (by simp), g x (by simp), ih, ih]
theorem res_congr {mn pa mn' pa' : S33 → Int} (need : Int) (l : List S33) (h : ∀ x ∈ l, mn x = mn' x) (g : ∀ x ∈ l, pa x = pa' x) : chRes mn pa need l = chRes mn' pa' need l := by
  unfold chRes
  rw [all_congr need l 0 [] 0 0 _ h g]
theorem cheap_ok {H : List S33} (h6 : H.length ≤ 10) (h : ∀ x ∈ H, Gd x) (hv : okB H = true) (need : Int) (n0 : 0 ≤ need) (n1 : need ≤ 20000) : Ev (fun k => impl_CheapestHands.f k H need) (chRes mnW payW need H) := by
  have e := impl_ok H (fun x hx => by have := (h x hx).len; omega)
  rw [hv] at e
  obtain ⟨K, hK⟩ := ev_and e (ev_and (ev_all H (p := fun k x => impl_extraMinutes.f k x.f0 x.f1 x.f2 0 = some (mnW x)) (fun x hx => by
      have := impl_ext x 0 (by have := (h x hx).len; omega)
      rw [sum_ext _ _ (gd_one (h x hx))] at this
      exact this)) (ev_all H (p := fun k x => impl_payOf.f k x.f0 x.f1 x.f2 1440 0 = some (payW x)) (fun x hx => impl_pay x (by have := (h x hx).len; omega) (gd_one (h x hx)))))
  refine ⟨K, fun k hk => ?_⟩
  obtain ⟨a, b, c⟩ := hK k hk
  dsimp only at a b c ⊢
  unfold impl_CheapestHands.f
  rw [a, Option.bind_some, impl_in, Option.bind_some, if_pos rfl, if_pos (by unfold inB; exact decide_eq_true ⟨n0, n1⟩), if_pos ⟨h6, by rw [List.all_eq_true]; intro x hx; rw [b x hx, c x hx]; rfl⟩]
  rw [res_congr need H (mn' := mnW) (pa' := payW) (fun x hx => by rw [b x hx]; rfl) (fun x hx => by rw [c x hx]; rfl)]
theorem at_ok {l : List Int} (hb : Bytes l) (a n : Int) (h0 : 0 ≤ a) (h1 : 1 ≤ n) : ∃ v, laws_a2At.f l a n = some v ∧ 0 ≤ v ∧ v < n := by
  unfold laws_a2At.f
  by_cases c : a ≥ (l.length : Int)
  · rw [if_pos c]; exact ⟨0, rfl, by omega, by omega⟩
  · have hr := rd_byte hb a
    rw [if_neg c, if_neg (by omega), if_pos h0, if_pos (by omega), if_neg (by omega), w64 (by omega) (by omega), Int.tmod_eq_emod_of_nonneg (by omega)]
    exact ⟨_, rfl, Int.emod_nonneg _ (by omega), Int.emod_lt_of_pos _ (by omega)⟩
end Go.Proofs.YtjmjmpbphhbmpaaDoor.QCB
