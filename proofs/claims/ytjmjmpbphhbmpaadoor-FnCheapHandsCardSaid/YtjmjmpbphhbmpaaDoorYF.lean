/- The plain law of FnCheapHands: the search finds what is cheapest among all sets. -/
import Derived.Test.YtjmjmpbphhbmpaaDoorYA
namespace Go.Proofs.YtjmjmpbphhbmpaaDoor.QCB
open Go.RowKit Go.Proofs.YtjmjmpbphhbmpaaDoorQ Go.Proofs.YtjmjmpbphhbmpaaDoorW.PrintWords Go.Proofs.YtjmjmpbphhbmpaaDoorW.PrintLast Go.Proofs.YtjmjmpbphhbmpaaDoorW.PrintMore

/-- A choice of hands: their numbers (from i on), and what they work and cost. -/
inductive Sb (mn pa : S33 → Int) : List S33 → Int → List Int → Int → Int → Prop
  | nil (i : Int) : Sb mn pa [] i [] 0 0
  | skip {x : S33} {xs : List S33} {i : Int} {t : List Int} {w p : Int} (h : Sb mn pa xs (i + 1) t w p) : Sb mn pa (x :: xs) i t w p
  | take {x : S33} {xs : List S33} {i : Int} {t : List Int} {w p : Int} (h : Sb mn pa xs (i + 1) t w p) : Sb mn pa (x :: xs) i (i :: t) (mn x + w) (pa x + p)
def Bd (mn pa : S33 → Int) (l : List S33) : Prop := ∀ x ∈ l, 0 ≤ mn x ∧ mn x ≤ 9000 ∧ 0 ≤ pa x ∧ pa x ≤ 1000000
theorem Bd.tail {mn pa : S33 → Int} {x : S33} {l : List S33} (h : Bd mn pa (x :: l)) : Bd mn pa l := fun y hy => h y (List.mem_cons_of_mem _ hy)
theorem Sb.none {mn pa : S33 → Int} {l : List S33} {i w p : Int} {t : List Int} (h : Sb mn pa l i t w p) (e : t = []) : w = 0 ∧ p = 0 := by
  induction h with
  | nil => exact ⟨rfl, rfl⟩
  | skip _ ih => exact ih e
  | take => cases e
theorem Sb.pos {mn pa : S33 → Int} {l : List S33} {i w p : Int} {t : List Int} (h : Sb mn pa l i t w p) (b : Bd mn pa l) : 0 ≤ w ∧ 0 ≤ p ∧ w ≤ 9000 * l.length ∧ p ≤ 1000000 * l.length := by
  induction h with
  | nil => simp
  | skip _ ih => have := ih b.tail; simp; omega
  | take _ ih => rename_i x _ _ _ _ _ _; have := ih b.tail; have := b x List.mem_cons_self; simp; omega
/-- The best so far costs no more than p. -/
def Bt (st : List Int × Int) (p : Int) : Prop := 0 ≤ st.2 ∧ st.2 ≤ p
theorem upd_bt {need : Int} {set : List Int} {wk py : Int} {st : List Int × Int} (h0 : 0 ≤ py) : (wk ≥ need → Bt (chUpd need set wk py st) py) ∧ (∀ q, Bt st q → Bt (chUpd need set wk py st) q) ∧
    (chUpd need set wk py st = st ∨ (wk ≥ need ∧ chUpd need set wk py st = (set, py))) := by
  unfold chUpd Bt
  by_cases a : wk ≥ need
  · rw [if_pos a]
    by_cases b : st.2 < 0
    · rw [if_pos b]
      exact ⟨fun _ => ⟨h0, Int.le_refl _⟩, fun q hq => by omega, .inr ⟨a, rfl⟩⟩
    · rw [if_neg b]
      by_cases c : py < st.2
      · rw [if_pos c]
        exact ⟨fun _ => ⟨h0, Int.le_refl _⟩, fun q hq => ⟨h0, by show py ≤ q; omega⟩, .inr ⟨a, rfl⟩⟩
      · rw [if_neg c]
        exact ⟨fun _ => by omega, fun q hq => hq, .inl rfl⟩
  · rw [if_neg a]
    exact ⟨fun h => absurd h a, fun q hq => hq, .inl rfl⟩
theorem sb_nil (mn pa : S33 → Int) : ∀ (xs : List S33) (j : Int), Sb mn pa xs j [] 0 0
  | [], _ => .nil _
  | _ :: xs, j => .skip (sb_nil mn pa xs (j + 1))
theorem all_ok (mn pa : S33 → Int) (need : Int) : ∀ (l : List S33) (i : Int) (set : List Int) (wk py : Int) (st : List Int × Int), Bd mn pa l → l.length ≤ 10 → 0 ≤ wk → 0 ≤ py → wk + 9000 * l.length ≤ 100000 → py + 1000000 * l.length ≤ 20000000 →
    (∀ t w p, Sb mn pa l i t w p → t ≠ [] → wk + w ≥ need → Bt (chAll mn pa need l i set wk py st) (py + p)) ∧ (∀ q, Bt st q → Bt (chAll mn pa need l i set wk py st) q) ∧
    (chAll mn pa need l i set wk py st = st ∨ ∃ t w p, Sb mn pa l i t w p ∧ wk + w ≥ need ∧ chAll mn pa need l i set wk py st = (set ++ t, py + p)) := by
  intro l
  induction l with
  | nil =>
    intro i set wk py st _ _ _ _ _ _
    refine ⟨fun t w p h ht => ?_, fun q h => h, .inl rfl⟩
    cases h
    exact absurd rfl ht
  | cons x xs ih =>
    intro i set wk py st hb hl h0 h1 h2 h3
    have hx := hb x List.mem_cons_self
    simp only [List.length_cons] at hl h2 h3
    have e1 : wrap64 (wk + mn x) = wk + mn x := w64 (by omega) (by omega)
    have e2 : wrap64 (py + pa x) = py + pa x := w64 (by omega) (by omega)
    rw [chAll, e1, e2]
    obtain ⟨u1, u2, u3⟩ := upd_bt (need := need) (set := set ++ [i]) (wk := wk + mn x) (py := py + pa x) (st := st) (by omega)
    generalize chUpd need (set ++ [i]) (wk + mn x) (py + pa x) st = st1 at u1 u2 u3 ⊢
    obtain ⟨a1, a2, a3⟩ := ih (i + 1) (set ++ [i]) (wk + mn x) (py + pa x) st1 hb.tail (by omega) (by omega) (by omega) (by omega) (by omega)
    generalize chAll mn pa need xs (i + 1) (set ++ [i]) (wk + mn x) (py + pa x) st1 = st2 at a1 a2 a3 ⊢
    obtain ⟨b1, b2, b3⟩ := ih (i + 1) set wk py st2 hb.tail (by omega) (by omega) (by omega) (by omega) (by omega)
    refine ⟨fun t w p h ht hn => ?_, fun q hq => b2 q (a2 q (u2 q hq)), ?_⟩
    · cases h with
      | skip h => exact b1 t w p h ht hn
      | take h =>
        rename_i t w p
        refine b2 _ ?_
        by_cases c : t = []
        · obtain ⟨rfl, rfl⟩ := h.none c
          have := a2 _ (u1 (by omega))
          rwa [show py + (pa x + 0) = py + pa x by omega]
        · have := a1 t w p h c (by omega)
          rwa [show py + (pa x + p) = py + pa x + p by omega]
    · have hn : Sb mn pa xs (i + 1) [] 0 0 := sb_nil mn pa xs (i + 1)
      rcases b3 with b3 | ⟨t, w, p, h, hn', b3⟩
      · rcases a3 with a3 | ⟨t, w, p, h, hn', a3⟩
        · rcases u3 with u3 | ⟨hn', u3⟩
          · exact .inl (by rw [b3, a3, u3])
          · exact .inr ⟨[i], mn x + 0, pa x + 0, .take hn, by omega, by rw [b3, a3, u3, Int.add_zero]⟩
        · exact .inr ⟨i :: t, mn x + w, pa x + p, .take h, by omega, by rw [b3, a3]; simp; omega⟩
      · exact .inr ⟨t, w, p, .skip h, hn', b3⟩
/-- What the search answers: none where no set works enough; else a set that works enough and costs least. -/
theorem res_ok (mn pa : S33 → Int) (need : Int) (l : List S33) (hb : Bd mn pa l) (hl : l.length ≤ 10) :
    (chRes mn pa need l = ([], 0, 3) ∧ ∀ t w p, Sb mn pa l 0 t w p → w < need) ∨
    ∃ t w p, chRes mn pa need l = (t, p, 0) ∧ Sb mn pa l 0 t w p ∧ w ≥ need ∧ ∀ t' w' p', Sb mn pa l 0 t' w' p' → w' ≥ need → p ≤ p' := by
  obtain ⟨u1, u2, u3⟩ := upd_bt (need := need) (set := []) (wk := 0) (py := 0) (st := ([], -1)) (Int.le_refl 0)
  unfold chRes
  generalize chUpd need [] 0 0 ([], -1) = st1 at u1 u2 u3 ⊢
  obtain ⟨a1, a2, a3⟩ := all_ok mn pa need l 0 [] 0 0 st1 hb hl (by omega) (by omega) (by omega) (by omega)
  generalize chAll mn pa need l 0 [] 0 0 st1 = st2 at a1 a2 a3 ⊢
  have hA : ∀ t w p, Sb mn pa l 0 t w p → w ≥ need → Bt st2 p := by
    intro t w p h hn
    by_cases c : t = []
    · obtain ⟨rfl, rfl⟩ := h.none c
      exact a2 _ (u1 hn)
    · have := a1 t w p h c (by omega)
      rwa [Int.zero_add] at this
  have hF : st2 = ([], -1) ∨ ∃ t w p, Sb mn pa l 0 t w p ∧ w ≥ need ∧ st2 = (t, p) := by
    rcases a3 with a3 | ⟨t, w, p, h, hn, a3⟩
    · rcases u3 with u3 | ⟨hn, u3⟩
      · exact .inl (by rw [a3, u3])
      · exact .inr ⟨[], 0, 0, sb_nil mn pa l 0, hn, by rw [a3, u3]⟩
    · exact .inr ⟨t, w, p, h, by omega, by rw [a3, List.nil_append, Int.zero_add]⟩
  rcases hF with e | ⟨t, w, p, h, hn, e⟩
  · refine .inl ⟨by rw [e]; rfl, fun t w p h => ?_⟩
    by_cases c : w < need
    · exact c
    · have := hA t w p h (by omega)
      rw [e] at this
      exact absurd this.1 (by decide)
  · have hp := (h.pos hb).2.1
    refine .inr ⟨t, w, p, by rw [e]; exact if_neg (by show ¬ p < 0; omega), h, hn, fun t' w' p' h' hn' => ?_⟩
    have := (hA t' w' p' h' hn').2
    rwa [e] at this
/-! ### what a choice is -/
def all (f : S33 → Int) : List S33 → Int
  | [] => 0
  | x :: xs => f x + all f xs
theorem sb_full (mn pa : S33 → Int) : ∀ (l : List S33) (i : Int), ∃ t p, Sb mn pa l i t (all mn l) p
  | [], i => ⟨[], 0, .nil _⟩
  | x :: xs, i => by
    obtain ⟨t, p, h⟩ := sb_full mn pa xs (i + 1)
    exact ⟨_, _, .take h⟩
theorem sb_le {mn pa : S33 → Int} {l : List S33} {i w p : Int} {t : List Int} (h : Sb mn pa l i t w p) (b : Bd mn pa l) : w ≤ all mn l := by
  induction h with
  | nil => exact Int.le_refl _
  | skip _ ih => rename_i x _ _ _ _ _ _; have := ih b.tail; have := b x List.mem_cons_self; rw [all]; omega
  | take _ ih => have := ih b.tail; rw [all]; omega
def sumT (f : S33 → Int) (l : List S33) : List Int → Int
  | [] => 0
  | c :: cs => f (rd_T33 l c) + sumT f l cs
theorem rdT33_at (pre ys : List S33) (y : S33) : rd_T33 (pre ++ y :: ys) (pre.length : Int) = y := get_mid ..
theorem sb_sums {mn pa : S33 → Int} {xs : List S33} {i w p : Int} {t : List Int} (h : Sb mn pa xs i t w p) : ∀ (pre : List S33), i = (pre.length : Int) →
    w = sumT mn (pre ++ xs) t ∧ p = sumT pa (pre ++ xs) t ∧ (∀ c ∈ t, i ≤ c ∧ c < i + xs.length) ∧ t.length ≤ xs.length := by
  induction h with
  | nil => intro pre _; simp [sumT]
  | skip _ ih =>
    rename_i x xs i t w p _
    intro pre e
    have := ih (pre ++ [x]) (by simp; omega)
    rw [← snoc] at this
    obtain ⟨h1, h2, h3, h4⟩ := this
    refine ⟨h1, h2, fun c hc => ?_, by simp; omega⟩
    have := h3 c hc
    simp only [List.length_cons]
    omega
  | take _ ih =>
    rename_i x xs i t w p _
    intro pre e
    have := ih (pre ++ [x]) (by simp; omega)
    rw [← snoc] at this
    obtain ⟨h1, h2, h3, h4⟩ := this
    subst e
    refine ⟨by rw [sumT, rdT33_at, h1], by rw [sumT, rdT33_at, h2], fun c hc => ?_, by simp; omega⟩
    simp only [List.length_cons]
    rcases List.mem_cons.1 hc with rfl | hc
    · omega
    · have := h3 c hc
      omega
/-- Numbers rise. -/
def rises : List Int → Prop
  | [] => True
  | [_] => True
  | a :: b :: r => a < b ∧ rises (b :: r)
theorem sb_rises {mn pa : S33 → Int} {xs : List S33} {i w p : Int} {t : List Int} (h : Sb mn pa xs i t w p) : rises t := by
  induction h with
  | nil => trivial
  | skip _ ih => exact ih
  | take h ih =>
    rename_i x xs i t w p
    cases t with
    | nil => trivial
    | cons b r =>
      refine ⟨?_, ih⟩
      have : ∀ {xs : List S33} {i w p : Int} {t : List Int}, Sb mn pa xs i t w p → ∀ c ∈ t, i ≤ c := by
        intro xs i w p t h
        induction h with
        | nil => intro c hc; cases hc
        | skip _ ih => intro c hc; have := ih c hc; omega
        | take _ ih =>
          intro c hc
          rcases List.mem_cons.1 hc with rfl | hc
          · omega
          · have := ih c hc; omega
      have := this h b List.mem_cons_self
      omega
end Go.Proofs.YtjmjmpbphhbmpaaDoor.QCB
